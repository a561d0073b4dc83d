import Derived.Tactics
import Derived.StillTail
import Derived.Deep.Quiet
import Derived.OrdersHeld
import Derived.Below
import Derived.Maps.RangeRun
import Derived.Deep.DeepAppendWide
import Derived.Great.BuildSlice
import Derived.Deep.Upon
import Derived.Lib.AppendZeros
import Derived.Laws.OwnMore
import Derived.Laws.Append
import Derived.Test.YthhimblbnnafkaaGreatChecked
import Derived.DeepKeys
import Derived.Laws.Tables
import Derived.Laws.MakeOwn
import Derived.Laws.CopyRow
import Derived.Sort.Grow
import Derived.Deep.Draws
import Derived.Laws.BytesArg
import Derived.Laws.Externs
import Derived.Conc.AtomicLaws2
import Derived.Laws.Small
import Derived.LaidEql
import Derived.Test.YthhimblbnnafkaaGreatRows
import Derived.WalkKit
import Derived.ProofKit
import Derived.OpenShut
import Derived.JoinedCond
import Derived.Carry
import Derived.Deep.Slices
import Derived.Defers
import Derived.Conc.MuLone
import Derived.Test.YthhimblbnnafkaaGreatProg
import Derived.Conc.MuLib
import Derived.KernelRfl
import Derived.Shelf.SlGeneric
import Derived.Shelf.SlSortCmp.WholeK
import Derived.Shelf.SlSortCmp.NoneTotal
set_option linter.unusedSimpArgs false
set_option linter.unusedVariables false
namespace Go.Ev
open Go
def _root_.Go.World.dr (w:World) (d:Nat):World:={ w with drawn:=d }
def spl (c:Array Value) (o:Nat) (cs:Array Value):Array Value:=(c.toList.take o++cs.toList++c.toList.drop (o+cs.size)).toArray
def _root_.Go.World.putRow (w:World) (b o:Nat) (cs:Array Value):World :=
 { w with heap:=w.heap.modify b fun
   | .cells c t f=>.cells (spl c o cs) t f
   | x=>x }
def oneV:Value→Bool
 | .agg _ | .tuple _=>false
 | _=>true
def Cb (b:Bool) (p q:Prop):Prop:=match b with
 | true=>p
 | false=>q
def Req (p q:Prop):Prop:=p∧q
def OpI (k:IntKind) (v:Value) (K:Int→Prop):Prop:=∃ n,v=.int k n∧K n
def OpB (v:Value) (K:Bool→Prop):Prop:=∃ b,v=.bool b∧K b
def OpT (v:Value) (K:ByteArray→Prop):Prop:=∃ s,v=.string s∧K s
def OpP (v:Value) (p:Prop) (K:Nat→Nat→Prop):Prop:=(v=.pointer none∧p)∨∃ b o,v=.pointer (some ⟨b,o,none⟩)∧K b o
def OpN (v:Value) (K:Nat→Nat→Prop):Prop:=∃ b o,v=.pointer (some ⟨b,o,none⟩)∧K b o
def OpS (v:Value) (K:Option Addr→Nat→Nat→Prop):Prop:=∃ p l c,v=.slice p l c∧K p l c
def OpM (v:Value) (K:Option Nat→Prop):Prop:=∃ m,v=.map m∧K m
def OpA (n:Nat) (v:Value) (K:Array Value→Prop):Prop:=∃ cs,v=.agg cs∧cs.size=n∧K cs
def T2 (v:Value) (K:Value→Value→Prop):Prop:=∃ a b,v=.tuple #[a,b]∧K a b
def T3 (v:Value) (K:Value→Value→Value→Prop):Prop:=∃ a b c,v=.tuple #[a,b,c]∧K a b c
def T4 (v:Value) (K:Value→Value→Value→Value→Prop):Prop:=∃ a b c d,v=.tuple #[a,b,c,d]∧K a b c d
def At (w:World):World→Prop:=fun w'=>∃ d,w'=w.dr d
def LdV (b o:Nat) (C:World→Prop) (K:Value→Prop):Prop:=∃ v,(∀ w,C w→w.cell? ⟨b,o,none⟩=some v)∧K v
def LdA (n b o:Nat) (C:World→Prop) (K:Array Value→Prop):Prop:=∃ cs:Array Value,cs.size=n∧(∀ w,C w→∀ i,i<n→w.cell? ⟨b,o+i,none⟩=cs[i]?)∧K cs
def StV (b o:Nat) (v:Value) (w:World) (K:World→Prop):Prop :=
 oneV v=true∧(∃ u,w.cell? ⟨b,o,none⟩=some u)∧w.frozen? ⟨b,o,none⟩=false∧K (w.setCell ⟨b,o,none⟩ v)
def StA (n b o:Nat) (cs:Array Value) (w:World) (K:World→Prop):Prop :=
 cs.size=n∧(∀ v∈cs.toList,oneV v=true)∧(∃ c t,w.heap[b]? = some (.cells c t (0,0))∧o+n≤c.size)∧K (w.putRow b o cs)
def Alc (t:TypeId) (cs:Array Value) (w:World) (K:Nat→World→Prop):Prop:=K w.heap.size (w.alloc (.cells cs t))
def IdxS (p:Option Addr) (l:Nat) (i:Int) (sz:Nat) (K:Nat→Nat→Prop):Prop :=
 ∃ b o,p=some ⟨b,o,none⟩∧0≤i∧i<l∧K b (o+i.toNat*sz)
def Fld (cs:Array Value) (i:Nat) (K:Value→Prop):Prop:=∃ v,cs[i]? = some v∧K v
def DoQ (P:Program) (s:Sem Value) (C:World→Prop) (K:Value→Prop):Prop:=∃ v,(∀ w,C w→s.run P w=.ok v w)∧K v
def DoV (P:Program) (s:Sem Value) (w:World) (K:Value→World→Prop):Prop:=∃ v w',s.run P w=.ok v w'∧K v w'
def DoU (P:Program) (s:Sem Unit) (w:World) (K:World→Prop):Prop:=∃ w',s.run P w=.ok () w'∧K w'
def DoN (P:Program) (s:Sem Next) (w:World) (K:Value→World→Prop):Prop:=∃ v w',s.run P w=.ok (.value v) w'∧K v w'
def zB (P:Program) (f:FuncId) (args:Array Value) (w:World) (K:Value→World→Prop):Prop :=
 Calls P f args w fun e w'=>∃ v,e=.returned v∧K v w'
def CallQ (P:Program) (f:FuncId) (args:Array Value) (C:World→Prop) (K:Value→Prop):Prop :=
 ∃ v,(∀ w,C w→Calls P f args w fun e w'=>e=.returned v∧C w')∧K v
def CallS (P:Program) (f:FuncId) (args:Array Value) (w:World) (K:Value→Prop):Prop :=
 ∃ v,(Calls P f args w fun e w'=>e=.returned v∧w'=w)∧K v
def Hld (p q:Prop):Prop:=p∧q
def HeldR (w:World) (K:(World→Prop)→World→Prop):Prop:=∀ d,∃ S:World→Prop,S (w.dr d)∧K S (w.dr d)
def HeldD (w:World) (K:(World→Prop)→World→Prop):Prop:=∀ d,w.drawn≤d→∃ S:World→Prop,S (w.dr d)∧K S (w.dr d)
def Drw (w:World) (K:World→Prop):Prop:=∀ d,K (w.dr d)
def Dr1 (w:World) (K:World→Prop):Prop:=∀ d,w.drawn≤d→K (w.dr d)
inductive SV where
 | val (v:Value)
 | gd (g want:Bool) (v:Value)
def SV.v:SV→Value
 | .val v=>v
 | .gd g w v=>cond (g==w) v undef
def LoopC {σ:Type} (body:(Nat→SV)→σ→World→(σ→World→Prop)→Prop) (s:σ) (w:World):Prop :=
 ∃ I:Nat→σ→World→Prop,(∃ m,I m s w)∧∀ j m s w,I m s w→body j s w fun s' w'=>∃ m',m'<m∧I m' s' w'
def JoinC {σ:Type} (body:(σ→World→Prop)→Prop) (rest:(Nat→SV)→σ→World→Prop):Prop :=
 ∃ J:σ→World→Prop,body J∧∀ j s w,J s w→rest j s w
inductive Kd where
 | int (k:IntKind) | bool | str | ptr | slice | map | agg (n:Nat) | tup (l:List Kd) | any | bad
def kd1 (P:Program) (t:TypeId):Kd :=
 match P.underlying t with
 | some (.int k)=>.int k
 | some .bool=>.bool
 | some .string=>.str
 | some (.pointer _)=>.ptr
 | some (.slice _)=>.slice
 | some (.map _ _)=>.map
 | some (.struct _)=>.agg (P.cellsOf t)
 | some (.array _ _)=>.agg (P.cellsOf t)
 | some _=>.any
 | none=>.bad
def kd (P:Program) (t:TypeId):Kd :=
 match P.underlying t with
 | some (.tuple ts)=>.tup (ts.toList.map (kd1 P))
 | _=>kd1 P t
def opn1 (nl:Bool):Kd→Value→(Value→Prop)→Prop
 | .int k,v,K=>OpI k v fun n=>K (.int k n)
 | .bool,v,K=>OpB v fun b=>K (.bool b)
 | .str,v,K=>OpT v fun s=>K (.string s)
 | .ptr,v,K=>match nl with
  | true=>OpP v (K (.pointer none)) fun b o=>K (.pointer (some ⟨b,o,none⟩))
  | false=>OpN v fun b o=>K (.pointer (some ⟨b,o,none⟩))
 | .slice,v,K=>OpS v fun p l c=>K (.slice p l c)
 | .map,v,K=>OpM v fun m=>K (.map m)
 | .agg n,v,K=>OpA n v fun cs=>K (.agg cs)
 | .tup _,v,K=>K v
 | .any,v,K=>K v
 | .bad,_,_=>False
def opn (nl:Bool):Kd→Value→(Value→Prop)→Prop
 | .tup [a,b],v,K=>T2 v fun x y=>opn1 nl a x fun x=>opn1 nl b y fun y=>K (.tuple #[x,y])
 | .tup [a,b,c],v,K=>T3 v fun x y z=>opn1 nl a x fun x=>opn1 nl b y fun y=>opn1 nl c z fun z=>K (.tuple #[x,y,z])
 | .tup [a,b,c,d],v,K=>T4 v fun x y z u=>opn1 nl a x fun x=>opn1 nl b y fun y=>opn1 nl c z fun z=>opn1 nl d u fun u=>K (.tuple #[x,y,z,u])
 | .tup _,v,K=>K v
 | k,v,K=>opn1 nl k v K
theorem opn1_of {nl:Bool} {k:Kd} {v:Value} {K:Value→Prop} (h:opn1 nl k v K):K v:=by
 cases k with
 | int k=>obtain ⟨n,rfl,h⟩:=h;exact h
 | bool=>obtain ⟨b,rfl,h⟩:=h;exact h
 | str=>obtain ⟨s,rfl,h⟩:=h;exact h
 | ptr =>
  cases nl with
  | true=>rcases h with ⟨rfl,h⟩ | ⟨b,o,rfl,h⟩ <;> exact h
  | false=>obtain ⟨b,o,rfl,h⟩:=h;exact h
 | slice=>obtain ⟨p,l,c,rfl,h⟩:=h;exact h
 | map=>obtain ⟨m,rfl,h⟩:=h;exact h
 | agg n=>obtain ⟨cs,rfl,_,h⟩:=h;exact h
 | tup l=>exact h
 | any=>exact h
 | bad=>exact h.elim
theorem opn_of {nl:Bool} {k:Kd} {v:Value} {K:Value→Prop} (h:opn nl k v K):K v:=by
 unfold opn at h
 split at h
 ·obtain ⟨a,b,rfl,h⟩:=h
  have h:=opn1_of h
  exact opn1_of (K:=fun y=>K (.tuple #[a,y])) h
 ·obtain ⟨a,b,c,rfl,h⟩:=h
  have h:=opn1_of h
  have h:=opn1_of (K:=fun y=>opn1 nl _ _ fun z=>K (.tuple #[a,y,z])) h
  exact opn1_of (K:=fun y=>K (.tuple #[a,b,y])) h
 ·obtain ⟨a,b,c,d,rfl,h⟩:=h
  have h:=opn1_of h
  have h:=opn1_of (K:=fun y=>opn1 nl _ _ fun z=>opn1 nl _ _ fun u=>K (.tuple #[a,y,z,u])) h
  have h:=opn1_of (K:=fun y=>opn1 nl _ _ fun z=>K (.tuple #[a,b,y,z])) h
  exact opn1_of (K:=fun y=>K (.tuple #[a,b,c,y])) h
 ·exact h
 ·exact opn1_of h
structure Env where
 t:Nat→SV
 d:List Deferred
def Env.puts (e:Env) (d:Option Tmp) (v:SV):Env:=match d with
 | some d=>⟨fun i=>cond (Nat.beq i d) v (e.t i),e.d⟩
 | none=>e
def Env.put (e:Env) (d:Option Tmp) (v:Value):Env:=e.puts d (.val v)
def Env.sv (e:Env):Operand→SV
 | .tmp t=>e.t t
 | .const v=>.val v
 | .global g=>.val (.pointer (some ⟨g,0,none⟩))
 | .func f=>.val (.func (.func f) #[] #[])
def Env.ev (e:Env):Operand→Value
 | .tmp t=>(e.t t).v
 | .const v=>v
 | .global g=>.pointer (some ⟨g,0,none⟩)
 | .func f=>.func (.func f) #[] #[]
structure Rel (n:Nat) (e:Env) (a:Act):Prop where
 size:a.tmps.size=n
 t:∀ i,a.tmps.getD i undef=(e.t i).v
 d:a.defers=e.d
theorem Rel.ev {n:Nat} {e:Env} {a:Act} (h:Rel n e a) (x:Operand):a.eval x=e.ev x:=by
 cases x <;> simp [Act.eval,Env.ev,h.t]
theorem Rel.evf {n:Nat} {e:Env} {a:Act} (h:Rel n e a):a.eval=e.ev:=funext h.ev
def dstOk (n:Nat):Option Tmp→Bool
 | none=>true
 | some d=>Nat.blt d n
theorem Rel.puts {n:Nat} {e:Env} {a:Act} (h:Rel n e a) {d:Option Tmp} (hd:dstOk n d=true) (v:SV):Rel n (e.puts d v) (a.put d v.v):=by
 cases d with
 | none=>exact h
 | some d =>
  have hd':d<n:=by simpa [dstOk,Nat.blt_eq] using hd
  refine ⟨by simp [Act.put,h.size],fun i=>?_,h.d⟩
  have hs:=h.size
  by_cases hi:i=d
  ·subst hi;simp [Act.put,Env.puts,hs,hd']
  ·have hb:Nat.beq i d=false:=Bool.eq_false_iff.2 fun h=>hi (Nat.eq_of_beq_eq_true h)
   have:=h.t i
   simp only [Act.put,Env.puts,hb,cond_false,← this,Array.getD_eq_getD_getElem?]
   rw [Array.getElem?_setIfInBounds_ne (by omega)]
theorem Rel.put {n:Nat} {e:Env} {a:Act} (h:Rel n e a) {d:Option Tmp} (hd:dstOk n d=true) (v:Value):Rel n (e.put d v) (a.put d v):=h.puts hd (.val v)
structure Ann where
 loops:Nat→List (Tmp×Kd)
 joins:Nat→Option (List (Tmp×Kd))
 conds:Nat→Option (List (Tmp×Kd))
 ents:Nat→Option (Kd×Kd)
 nilable:Nat→Bool
 fns:Nat→Option FuncId
 regs:Nat→Option (List (Tmp×Kd))
def lookL {α:Type} (l:List (Nat×α)) (i:Nat):Option α:=match l with
 | []=>none
 | x::r=>cond (Nat.beq x.1 i) (some x.2) (lookL r i)
def memL (l:List Nat) (i:Nat):Bool:=match l with
 | []=>false
 | x::r=>cond (Nat.beq x i) true (memL r i)
def mkAnn (loops joins conds:List (Nat×List (Tmp×Kd))) (ents:List (Nat×(Kd×Kd))) (nils:List Nat):Ann :=
 ⟨fun i=>(lookL loops i).getD [],lookL joins,lookL conds,lookL ents,memL nils,fun _=>none,fun _=>none⟩
def mkAnnR (loops joins conds:List (Nat×List (Tmp×Kd))) (ents:List (Nat×(Kd×Kd))) (nils:List Nat) (fns:List (Nat×FuncId)) (regs:List (Nat×List (Tmp×Kd))):Ann :=
 ⟨fun i=>(lookL loops i).getD [],lookL joins,lookL conds,lookL ents,memL nils,lookL fns,lookL regs⟩
def Ann.entK (A:Ann):Option Tmp→Kd
 | some d=>match A.ents d with
  | some (a,b)=>.tup [a,b]
  | none=>.any
 | none=>.any
def zc (P:Program) (t:TypeId):Array Value:=match (P.info? t).bind (·.zero) with
 | some z=>z.cells
 | none=>#[]
def Ann.nl (A:Ann):Option Tmp→Bool
 | some d=>A.nilable d
 | none=>false
def Ann.callNl (A:Ann):Option Tmp→Bool
 | some d => !A.nilable (100000+d)
 | none=>true
def Ann.fn (A:Ann):Option Tmp→Option FuncId
 | some d=>A.fns d
 | none=>none
def OpG (g:FuncId) (v:Value) (K:Array Value→Prop):Prop:=∃ ca,v=.func (.func g) #[] ca∧K ca
def opnF (g:Option FuncId) (nl:Bool) (k:Kd) (v:Value) (K:Value→Prop):Prop:=match g with
 | some g=>match k with
  | .any=>OpG g v fun ca=>K (.func (.func g) #[] ca)
  | _=>False
 | none=>opn1 nl k v K
theorem opnF_of {g:Option FuncId} {nl:Bool} {k:Kd} {v:Value} {K:Value→Prop} (h:opnF g nl k v K):K v:=by
 cases g with
 | none=>exact opn1_of h
 | some g =>
  cases k
  case any=>obtain ⟨ca,rfl,h⟩:=h;exact h
  all_goals exact h.elim
theorem opnF_bad {g:Option FuncId} {nl:Bool} {v:Value} {K:Value→Prop} (h:opnF g nl .bad v K):False:=by cases g <;> exact h
def ibits (op:BinOp) (k:IntKind) (x y:Int):Int :=
 match op with
 | .and=>k.wrap (BitVec.ofInt k.bits x &&& BitVec.ofInt k.bits y).toNat
 | .or=>k.wrap (BitVec.ofInt k.bits x ||| BitVec.ofInt k.bits y).toNat
 | .xor=>k.wrap (BitVec.ofInt k.bits x ^^^ BitVec.ofInt k.bits y).toNat
 | _=>k.wrap (BitVec.ofInt k.bits x &&& ~~~BitVec.ofInt k.bits y).toNat
def ishl (k:IntKind) (x y:Int):Int:=k.wrap (x*2 ^ (min y.toNat k.bits))
def ishr (k:IntKind) (x y:Int):Int:=x.fdiv (2 ^ (min y.toNat k.bits))
def EqB (P:Program) (op:BinOp) (t:TypeId) (x y:Operand) (a b:Value) (C:World→Prop) (K:Bool→Prop):Prop :=
 ∃ r:Bool,(∀ w,C w→(do eqGuard op t x y a b;binOp op t a b:Sem Value).run P w=.ok (.bool r) w)∧K r
def denInt (op:BinOp) (k:IntKind) (a b:Int) (K:Value→Prop):Prop :=
 match op with
 | .add=>K (.int k (k.wrap (a+b)))
 | .sub=>K (.int k (k.wrap (a-b)))
 | .mul=>K (.int k (k.wrap (a*b)))
 | .quo=>Req (b≠0) (K (.int k (k.wrap (a.tdiv b))))
 | .rem=>Req (b≠0) (K (.int k (a.tmod b)))
 | .and=>K (.int k (ibits .and k a b))
 | .or=>K (.int k (ibits .or k a b))
 | .xor=>K (.int k (ibits .xor k a b))
 | .andNot=>K (.int k (ibits .andNot k a b))
 | .eql=>K (.bool (a==b))
 | .neq=>K (.bool (a !=b))
 | .lss=>K (.bool (decide (a<b)))
 | .leq=>K (.bool (decide (a≤b)))
 | .gtr=>K (.bool (decide (a>b)))
 | .geq=>K (.bool (decide (a≥b)))
 | _=>False
def denBin (P:Program) (op:BinOp) (t:TypeId) (x y:Operand) (C:World→Prop) (K:Value→Prop):Value→Value→Prop
 | .int k a,.int k' b=>match op with
  | .shl=>Req (0≤b) (K (.int k (ishl k a b)))
  | .shr=>Req (0≤b) (K (.int k (ishr k a b)))
  | op=>cond (decide (k=k')) (denInt op k a b K) False
 | .pointer none,.pointer none=>match op,P.underlying t with
  | .eql,some (.pointer _)=>K (.bool true)
  | .neq,some (.pointer _)=>K (.bool false)
  | _,_=>False
 | .pointer none,.pointer (some _)=>match op,P.underlying t with
  | .eql,some (.pointer _)=>K (.bool false)
  | .neq,some (.pointer _)=>K (.bool true)
  | _,_=>False
 | .pointer (some _),.pointer none=>match op,P.underlying t with
  | .eql,some (.pointer _)=>K (.bool false)
  | .neq,some (.pointer _)=>K (.bool true)
  | _,_=>False
 | .slice p _ _,.slice none 0 0=>match op,P.underlying t with
  | .eql,some (.slice _)=>K (.bool p.isNone)
  | .neq,some (.slice _)=>K (.bool (!p.isNone))
  | _,_=>False
 | .bool a,.bool b=>match op,P.underlying t with
  | .eql,some .bool=>K (.bool (a==b))
  | .neq,some .bool=>K (.bool (!(a==b)))
  | _,_=>False
 | a,b=>EqB P op t x y a b C fun r=>K (.bool r)
theorem run_dr_underlying {P:Program} {t:TypeId} {d:TypeDesc} (h:P.underlying t=some d) (w:World):(underlying t).run P w=.ok d w:=by
 simp [underlying,program,Sem.run,h,bind,Sem.bind,pure]
theorem denInt_of {P:Program} {op:BinOp} {t:TypeId} {k:IntKind} {a b:Int} {K:Value→Prop} (hs:op ≠ .shl) (hr:op ≠ .shr) (h:denInt op k a b K) :
  ∃ v,(∀ w:World,(binOp op t (.int k a) (.int k b)).run P w=.ok v w)∧K v:=by
 cases op
 case shl=>exact absurd rfl hs
 case shr=>exact absurd rfl hr
 case quo=>obtain ⟨h0,h⟩:=h;exact ⟨_,fun w=>by simp [binOp,Op.intDiv,h0,Sem.run_pure],h⟩
 case rem=>obtain ⟨h0,h⟩:=h;exact ⟨_,fun w=>by simp [binOp,Op.intDiv,h0,Sem.run_pure],h⟩
 case eql=>exact ⟨_,fun w=>by simp [binOp,Op.intCmp,Sem.run_pure],h⟩
 case neq=>exact ⟨_,fun w=>by simp [binOp,Op.intCmp,Sem.run_pure],h⟩
 case lss=>exact ⟨_,fun w=>by simp [binOp,Op.intCmp,Sem.run_pure],h⟩
 case leq=>exact ⟨_,fun w=>by simp [binOp,Op.intCmp,Sem.run_pure],h⟩
 case gtr=>exact ⟨_,fun w=>by simp [binOp,Op.intCmp,Sem.run_pure],h⟩
 case geq=>exact ⟨_,fun w=>by simp [binOp,Op.intCmp,Sem.run_pure],h⟩
 all_goals exact ⟨_,fun w=>by simp [binOp,Op.intArith,Op.intBits,ibits,Sem.run_pure],h⟩
theorem eqGuard_int (op:BinOp) (t:TypeId) (x y:Operand) (k k':IntKind) (a b:Int) (P:Program) (w:World):(eqGuard op t x y (.int k a) (.int k' b)).run P w=.ok () w:=by
 unfold eqGuard;split <;> simp [Sem.run_pure]
theorem eqGuard_ptr (op:BinOp) (t:TypeId) (x y:Operand) (a b:Option Addr) (P:Program) (w:World):(eqGuard op t x y (.pointer a) (.pointer b)).run P w=.ok () w:=by
 unfold eqGuard;split <;> simp [Sem.run_pure]
theorem eqGuard_slice (op:BinOp) (t:TypeId) (x y:Operand) (a b:Option Addr) (l c m d:Nat) (P:Program) (w:World):(eqGuard op t x y (.slice a l c) (.slice b m d)).run P w=.ok () w:=by
 unfold eqGuard;split <;> simp [Sem.run_pure]
theorem eqGuard_bool (op:BinOp) (t:TypeId) (x y:Operand) (a b:Bool) (P:Program) (w:World):(eqGuard op t x y (.bool a) (.bool b)).run P w=.ok () w:=by
 unfold eqGuard;split <;> simp [Sem.run_pure]
theorem equal_bool {P:Program} {t:TypeId} (ht:P.underlying t=some .bool) (a b:Bool) (w:World):(Op.equal t (.bool a) (.bool b)).run P w=.ok (a==b) w:=by
 unfold Op.equal Op.maxDepth
 rw [Op.equalIn]
 simp [Sem.run_bind,run_dr_underlying ht,Sem.run_pure]
theorem equal_ptr_nil {P:Program} {t e:TypeId} (ht:P.underlying t=some (.pointer e)) (a b:Option Addr) (hab:a=none∨b=none) (w:World) :
  (Op.equal t (.pointer a) (.pointer b)).run P w=.ok (a.isNone && b.isNone) w:=by
 unfold Op.equal Op.maxDepth
 rw [Op.equalIn]
 rcases hab with rfl | rfl
 ·simp [Sem.run_bind,run_dr_underlying ht,Sem.run_pure]
 ·cases a <;> simp [Sem.run_bind,run_dr_underlying ht,Sem.run_pure]
theorem equal_slice_nil {P:Program} {t e:TypeId} (ht:P.underlying t=some (.slice e)) (a:Option Addr) (l c:Nat) (w:World) :
  (Op.equal t (.slice a l c) (.slice none 0 0)).run P w=.ok a.isNone w:=by
 unfold Op.equal Op.maxDepth
 rw [Op.equalIn]
 cases a <;> simp [Sem.run_bind,run_dr_underlying ht,Sem.run_pure]
theorem denBin_of {P:Program} {op:BinOp} {t:TypeId} {x y:Operand} {C:World→Prop} {K:Value→Prop} {a b:Value} (h:denBin P op t x y C K a b) :
  ∃ v,(∀ w,C w→(do eqGuard op t x y a b;binOp op t a b:Sem Value).run P w=.ok v w)∧K v:=by
 unfold denBin at h
 split at h
 ·rename_i k a k' b
  split at h
  ·obtain ⟨h0,h⟩:=h
   exact ⟨_,fun w _=>by simp [Sem.run_bind,eqGuard_int,binOp,Op.shift,Sem.run_pure,ishl,show ¬ b<0 by omega],h⟩
  ·obtain ⟨h0,h⟩:=h
   exact ⟨_,fun w _=>by simp [Sem.run_bind,eqGuard_int,binOp,Op.shift,Sem.run_pure,ishr,show ¬ b<0 by omega],h⟩
  ·rename_i hs hr
   by_cases hk:k=k'
   ·subst hk
    simp only [decide_true,cond_true] at h
    obtain ⟨v,hv,hK⟩:=denInt_of (P:=P) (t:=t) hs hr h
    exact ⟨v,fun w _=>by rw [Sem.run_bind,eqGuard_int];exact hv _,hK⟩
   ·simp [hk] at h
 ·split at h
  ·rename_i ht
   exact ⟨_,fun w _=>by simp [Sem.run_bind,eqGuard_ptr,binOp,equal_ptr_nil ht,Sem.run_pure],h⟩
  ·rename_i ht
   exact ⟨_,fun w _=>by simp [Sem.run_bind,eqGuard_ptr,binOp,equal_ptr_nil ht,Sem.run_pure],h⟩
  ·exact h.elim
 ·split at h
  ·rename_i ht
   exact ⟨_,fun w _=>by simp [Sem.run_bind,eqGuard_ptr,binOp,equal_ptr_nil ht,Sem.run_pure],h⟩
  ·rename_i ht
   exact ⟨_,fun w _=>by simp [Sem.run_bind,eqGuard_ptr,binOp,equal_ptr_nil ht,Sem.run_pure],h⟩
  ·exact h.elim
 ·split at h
  ·rename_i ht
   exact ⟨_,fun w _=>by simp [Sem.run_bind,eqGuard_ptr,binOp,equal_ptr_nil ht,Sem.run_pure],h⟩
  ·rename_i ht
   exact ⟨_,fun w _=>by simp [Sem.run_bind,eqGuard_ptr,binOp,equal_ptr_nil ht,Sem.run_pure],h⟩
  ·exact h.elim
 ·split at h
  ·rename_i ht
   exact ⟨_,fun w _=>by simp [Sem.run_bind,eqGuard_slice,binOp,equal_slice_nil ht,Sem.run_pure],h⟩
  ·rename_i ht
   exact ⟨_,fun w _=>by simp [Sem.run_bind,eqGuard_slice,binOp,equal_slice_nil ht,Sem.run_pure],h⟩
  ·exact h.elim
 ·split at h
  ·rename_i ht
   exact ⟨_,fun w _=>by simp [Sem.run_bind,eqGuard_bool,binOp,equal_bool ht,Sem.run_pure],h⟩
  ·rename_i ht
   exact ⟨_,fun w _=>by simp [Sem.run_bind,eqGuard_bool,binOp,equal_bool ht,Sem.run_pure],h⟩
  ·exact h.elim
 ·obtain ⟨r,hr,h⟩:=h
  exact ⟨_,hr,h⟩
def Slc (len cap:Nat) (lo hi mx:Option Int) (K:Nat→Nat→Nat→Prop):Prop :=
 let m:=mx.getD cap;let h:=hi.getD (match mx with | none=>len | some _ => -1);let l:=lo.getD 0
 0≤l∧l≤h∧h≤m∧m≤cap∧K l.toNat h.toNat m.toNat
def slcP (sz l m:Nat) (p:Option Addr):Option Addr:=if m=l then p else p.map (·.add (l*sz))
def StrAt (s:ByteArray) (i:Int) (K:Int→Prop):Prop:=∃ b:UInt8,0≤i∧s[i.toNat]? = some b∧K b.toNat
def SlArr (p:Option Addr) (l n:Nat) (K:Nat→Nat→Prop):Prop:=∃ b o,p=some ⟨b,o,none⟩∧n≤l∧K b o
def intOf? : Option Value→Option (Option Int)
 | none=>some none
 | some (.int _ n)=>some (some n)
 | some _=>none
def partQ (P:Program) (nl:Bool) (t:TypeId) (cs:Array Value) (off:Nat) (K:Value→Prop):Prop :=
 match kd1 P t with
 | .agg n=>K (.agg (cs.extract off (off+n)))
 | k=>Fld cs off fun v=>opn1 nl k v K
def okCall (P:Program) (f:FuncId):Bool :=
 match P.funcs[f]? with
 | some fn => !(fn.name == "runtime.NumGoroutine") && !fn.body.isNone
 | none=>false
def denQ (P:Program) (A:Ann) (o:Oper) (e:Env) (C:World→Prop) (K:Value→Prop):Prop :=
 match o.op with
 | .move x=>K (e.ev x)
 | .assign x=>K (e.ev x)
 | .pick c a b=>match e.ev c with
  | .bool t=>match e.sv a,e.sv b with
   | .val (.bool x),.val (.bool y)=>K (.bool (cond t x y))
   | .val (.bool x),.gd g false (.bool y)=>Req (g=t) (K (.bool (cond t x y)))
   | .gd g true (.bool x),.val (.bool y)=>Req (g=t) (K (.bool (cond t x y)))
   | .val x,.val y=>Cb t (K x) (K y)
   | _,_=>False
  | _=>False
 | .load t ad=>match e.ev ad with
  | .pointer (some ⟨b,o',none⟩)=>match kd1 P t with
   | .agg n=>LdA n b o' C fun cs=>K (.agg cs)
   | k=>LdV b o' C fun v=>opnF (A.fn o.dst) (A.nl o.dst) k v K
  | _=>False
 | .nilCheck x=>match e.ev x with
  | .pointer (some a)=>K (.pointer (some a))
  | .func (.func f) fi ca=>K (.func (.func f) fi ca)
  | _=>False
 | .binOp op t x y _=>denBin P op t x y C K (e.ev x) (e.ev y)
 | .unOp op _ x=>match op,e.ev x with
  | .not,.bool b=>K (.bool (!b))
  | .neg,.int k n=>K (.int k (k.wrap (0-n)))
  | .xor,.int k n=>K (.int k (ibits .xor k (cond k.signed (-1) k.max) n))
  | _,_=>False
 | .convert src dst x=>match P.underlying src,P.underlying dst,e.ev x with
  | some (.int _),some (.int k'),.int _ n=>K (.int k' (k'.wrap n))
  | some _,some .string,v=>DoQ P (convert src dst v) C fun v=>OpT v fun s=>K (.string s)
  | _,_,_=>False
 | .fieldAddr s x f=>match P.underlying s,e.ev x with
  | some (.struct fs),.pointer (some ⟨b,o',none⟩)=>match fs.toList[f]? with
   | some fd=>cond (Nat.beq (P.cellsOf fd.type) 0) False (K (.pointer (some ⟨b,o'+fd.offset,none⟩)))
   | none=>False
  | _,_=>False
 | .field s x f=>match P.underlying s,e.ev x with
  | some (.struct fs),.agg cs=>match fs.toList[f]? with
   | some fd=>partQ P (A.nl o.dst) fd.type cs fd.offset K
   | none=>False
  | _,_=>False
 | .indexAddr t x i=>match P.underlying t,e.ev x,e.ev i with
  | some (.array n el),.pointer (some ⟨b,o',none⟩),.int _ i=>cond (P.info? el).isSome (Req (0≤i∧i<n) (K (.pointer (some ⟨b,o'+i.toNat*P.cellsOf el,none⟩)))) False
  | some (.slice el),.slice p l _,.int _ i=>cond (P.info? el).isSome (IdxS p l i (P.cellsOf el) fun b o'=>K (.pointer (some ⟨b,o',none⟩))) False
  | _,_,_=>False
 | .index t x i=>match P.underlying t,e.ev x,e.ev i with
  | some (.array n el),.agg cs,.int _ i=>cond (P.info? el).isSome (Req (0≤i∧i<n) (partQ P (A.nl o.dst) el cs (i.toNat*P.cellsOf el) K)) False
  | some .string,.string s,.int _ i=>StrAt s i fun n=>K (.int .u8 n)
  | _,_,_=>False
 | .slice t x lo hi mx=>match intOf? (lo.map e.ev),intOf? (hi.map e.ev),intOf? (mx.map e.ev) with
  | some lo,some hi,some mx=>match P.underlying t,e.ev x with
   | some (.array n el),.pointer (some ⟨b,o',none⟩)=>cond (P.info? el).isSome (Slc n n lo hi mx fun l h m=>K (.slice (slcP (P.cellsOf el) l m (some ⟨b,o',none⟩)) (h-l) (m-l))) False
   | some (.slice el),.slice p len cap=>cond (P.info? el).isSome (Slc len cap lo hi mx fun l h m=>K (.slice (slcP (P.cellsOf el) l m p) (h-l) (m-l))) False
   | some .string,.string s=>match mx with
    | none=>Slc s.size s.size lo hi none fun l h _=>K (.string (s.extract l h))
    | some _=>False
   | _,_=>False
  | _,_,_=>False
 | .lookup t x i ok=>DoQ P (Instr.lookup t (e.ev x) (e.ev i) ok) C fun v=>opn (A.nl o.dst) (kd P o.type) v K
 | .entry x=>DoQ P (Instr.entry (e.ev x)) C fun v=>opn (A.nl o.dst) (A.entK o.dst) v K
 | .extract t i=>match e.ev t with
  | .tuple vs=>match vs.toList[i]? with
   | some v=>K v
   | none=>False
  | _=>False
 | .build t parts=>DoQ P (Instr.build t (parts.toList.map fun p=>(p.1,e.ev p.2)).toArray) C fun v=>OpA (P.cellsOf t) v fun cs=>K (.agg cs)
 | .makeFunc fn fi ca=>K (.func fn (fi.toList.map e.ev).toArray (ca.toList.map e.ev).toArray)
 | .sliceToArrayPointer t x=>match P.underlying t,e.ev x with
  | some (.array n _),.slice p l _=>SlArr p l n fun b o'=>K (.pointer (some ⟨b,o',none⟩))
  | _,_=>False
 | .call { callee:=.builtin .len,args,argTypes }=>match args.toList,argTypes.toList with
  | [x],[t]=>match P.underlying t,e.ev x with
   | some (.slice _),.slice _ n _=>K (.int .i64 n)
   | some .string,.string s=>K (.int .i64 s.size)
   | some (.array n _),_=>K (.int .i64 n)
   | some (.map _ _),v=>DoQ P (Builtin.len_ #[t] o.type #[v]) C fun v=>OpI .i64 v fun n=>K (.int .i64 n)
   | _,_=>False
  | _,_=>False
 | .call { callee:=.builtin .cap,args,argTypes }=>match args.toList,argTypes.toList with
  | [x],[t]=>match P.underlying t,e.ev x with
   | some (.slice _),.slice _ _ c=>K (.int .i64 c)
   | _,_=>False
  | _,_=>False
 | .call { callee:=.builtin .min,args,argTypes }=>DoQ P (Builtin.min_ argTypes o.type (args.toList.map e.ev).toArray) C fun v=>opn false (kd P o.type) v K
 | .call { callee:=.builtin .max,args,argTypes }=>DoQ P (Builtin.max_ argTypes o.type (args.toList.map e.ev).toArray) C fun v=>opn false (kd P o.type) v K
 | _=>False
section sound
variable {P:Program} {A:Ann} {e:Env} {w:World} {C:World→Prop} {K:Value→Prop}
theorem kd1_agg {t:TypeId} {n:Nat} (h:kd1 P t=.agg n):((∃ fs,P.underlying t=some (.struct fs))∨∃ m el,P.underlying t=some (.array m el))∧n=P.cellsOf t:=by
 unfold kd1 at h
 split at h <;> first
  | (cases h;rename_i hu;exact ⟨.inl ⟨_,hu⟩,rfl⟩)
  | (cases h;rename_i hu;exact ⟨.inr ⟨_,_,hu⟩,rfl⟩)
  | cases h
theorem run_isAgg_true {t:TypeId} {n:Nat} (h:kd1 P t=.agg n) (w:World):(isAgg t).run P w=.ok true w:=by
 obtain ⟨h | h,_⟩:=kd1_agg h
 ·obtain ⟨fs,h⟩:=h;simp [isAgg,Sem.run_bind,run_dr_underlying h,Sem.run_pure]
 ·obtain ⟨m,el,h⟩:=h;simp [isAgg,Sem.run_bind,run_dr_underlying h,Sem.run_pure]
theorem underlying_info {t:TypeId} {d:TypeDesc} (h:P.underlying t=some d):∃ i,P.info? t=some i:=by
 unfold Program.underlying at h
 split at h
 ·rename_i hi;exact ⟨_,hi⟩
 ·rename_i hi;exact ⟨_,hi⟩
 ·cases h
theorem run_isAgg_false {t:TypeId} {d:TypeDesc} (hu:P.underlying t=some d) (h:∀ n,kd1 P t ≠ .agg n) (w:World):(isAgg t).run P w=.ok false w:=by
 unfold kd1 at h
 rw [hu] at h
 cases d <;> first
  | (simp [isAgg,Sem.run_bind,run_dr_underlying hu,Sem.run_pure];done)
  | exact absurd rfl (h _)
theorem run_typeInfo {t:TypeId} {i:TypeInfo} (h:P.info? t=some i) (w:World):(typeInfo t).run P w=.ok i w:=by
 simp [typeInfo,program,Sem.run,h,bind,Sem.bind,pure]
theorem run_sizeOf {t:TypeId} {d:TypeDesc} (hu:P.underlying t=some d) (w:World):(sizeOf t).run P w=.ok (P.cellsOf t) w:=by
 obtain ⟨i,hi⟩:=underlying_info hu
 simp [sizeOf,Sem.run_bind,run_typeInfo hi,Sem.run_pure,Program.cellsOf,hi]
theorem addr_add (b o n:Nat):(⟨b,o,none⟩:Addr).add n=⟨b,o+n,none⟩:=by
 unfold Addr.add;split
 ·subst_vars;rfl
 ·rfl
theorem run_loadCellsFrom (b o:Nat) (cs:Array Value) (w:World):∀ (n i:Nat) (acc:Array Value),i+n=cs.size→(∀ j,i≤j→j<cs.size→w.cell? ⟨b,o+j,none⟩=cs[j]?) →
  acc=cs.extract 0 i→(loadCellsFrom ⟨b,o,none⟩ i n acc).run P w=.ok cs w
 | 0,i,acc,hi,_,ha=>by
  simp only [loadCellsFrom,Sem.run_pure]
  subst ha
  have:i=cs.size:=by omega
  subst this
  simp
 | n+1,i,acc,hi,hc,ha=>by
  have hlt:i<cs.size:=by omega
  have h0:=hc i (Nat.le_refl _) hlt
  rw [Array.getElem?_eq_getElem hlt] at h0
  simp only [loadCellsFrom,addr_add,Sem.run_bind,load,Sem.run,h0,Result.andThen_ok]
  refine run_loadCellsFrom b o cs w n (i+1) _ (by omega) (fun j hj hj'=>hc j (by omega) hj') ?_
  subst ha
  rw [Array.push_extract_getElem (by omega)]
  simp [Nat.min_eq_left (show 0≤i by omega)]
theorem run_load_agg {w:World} {t:TypeId} {n b o:Nat} {cs:Array Value} (hk:kd1 P t=.agg n) (hs:cs.size=n) (hc:∀ i,i<n→w.cell? ⟨b,o+i,none⟩=cs[i]?) :
  (loadVar t ⟨b,o,none⟩).run P w=.ok (.agg cs) w:=by
 obtain ⟨h,hn⟩:=kd1_agg hk
 have hu:∃ d,P.underlying t=some d:=by rcases h with ⟨_,h⟩ | ⟨_,_,h⟩ <;> exact ⟨_,h⟩
 obtain ⟨d,hu⟩:=hu
 have hl:=run_loadCellsFrom (P:=P) b o cs w cs.size 0 #[] (by omega) (fun j _ hj=>hc j (by omega)) (by simp)
 simp only [loadVar,Sem.run_bind,run_isAgg_true hk,Result.andThen_ok,if_true,run_sizeOf hu,loadCells,← hn,← hs,hl,Sem.run_pure]
theorem run_load_one {w:World} {t:TypeId} {d:TypeDesc} (hu:P.underlying t=some d) (hk:∀ n,kd1 P t ≠ .agg n) {a:Addr} {v:Value} (hc:w.cell? a=some v) :
  (loadVar t a).run P w=.ok v w:=by
 simp [loadVar,Sem.run_bind,run_isAgg_false hu hk,load,Sem.run,hc]
theorem kd1_some {t:TypeId} (h:kd1 P t ≠ .bad):∃ d,P.underlying t=some d:=by
 cases hu:P.underlying t with
 | some d=>exact ⟨d,rfl⟩
 | none=>exact absurd (by unfold kd1;rw [hu]) h
theorem partQ_of {nl:Bool} {t:TypeId} {cs:Array Value} {off:Nat} (h:partQ P nl t cs off K) :
  ∃ v,(∀ w,(part t cs off).run P w=.ok v w)∧K v:=by
 unfold partQ at h
 split at h
 ·rename_i n hk
  obtain ⟨_,hn⟩:=kd1_agg hk
  obtain ⟨d,hu⟩:=kd1_some (P:=P) (t:=t) (by rw [hk];simp)
  exact ⟨_,fun w=>by simp [part,Sem.run_bind,run_isAgg_true hk,run_sizeOf hu,Sem.run_pure,hn],h⟩
 ·rename_i hk
  obtain ⟨v,hv,h⟩:=h
  have hk':∀ n,kd1 P t ≠ .agg n:=fun n h=>hk n h
  obtain ⟨d,hu⟩:=kd1_some (P:=P) (t:=t) (fun hb=>by rw [hb] at h;exact h)
  exact ⟨v,fun w=>by simp [part,Sem.run_bind,run_isAgg_false hu hk',hv,Sem.run_pure],opn1_of h⟩
def QRun (P:Program) (s:Sem Next) (C:World→Prop) (v:Value):Prop:=∀ w,C w→s.run P w=.ok (.value v) w
theorem QRun.of {s:Sem Value} {v:Value} (h:∀ w,C w→s.run P w=.ok v w):QRun P (do pure (.value (← s))) C v:=fun w hw=>by
 rw [Sem.run_bind,h w hw];rfl
theorem sureAddr_run (b o:Nat) (w:World):(Instr.sureAddr (.pointer (some ⟨b,o,none⟩))).run P w=.ok ⟨b,o,none⟩ w:=by
 simp [Instr.sureAddr,Sem.run_pure]
theorem sliceBound_run {n:Int} {y:Nat} {c:BoundsCode} {k:IntKind} (h0:0≤n) (h1:n≤y) (w:World):(Instr.sliceBound (.int k n) y c).run P w=.ok n.toNat w:=by
 simp [Instr.sliceBound,asIntOf,Sem.run_bind,Sem.run_pure,h0,h1]
theorem slc_run {b:Bool} {len cap:Nat} {lo hi mx:Option Value} {lo' hi' mx':Option Int} (hl:intOf? lo=some lo') (hh:intOf? hi=some hi') (hm:intOf? mx=some mx')
  {K:Nat→Nat→Nat→Prop} (h:Slc len cap lo' hi' mx' K):∃ l h m,(∀ w,(Instr.sliceBounds b len cap lo hi mx).run P w=.ok (l,h,m) w)∧K l h m:=by
 have key:∀ {x:Option Value} {x':Option Int},intOf? x=some x'→(x=none∧x'=none)∨∃ k n,x=some (.int k n)∧x'=some n:=by
  intro x x' hx
  unfold intOf? at hx
  split at hx
  ·cases hx;exact .inl ⟨rfl,rfl⟩
  ·cases hx;exact .inr ⟨_,_,rfl,rfl⟩
  ·cases hx
 obtain ⟨h1,h2,h3,h4,hK⟩:=h
 refine ⟨_,_,_,fun w=>?_,hK⟩
 have e2:∀ {n m:Int},0≤n→n≤m→n≤(m.toNat:Int):=fun h0 h=>by omega
 rcases key hm with ⟨rfl,rfl⟩ | ⟨km,m,rfl,rfl⟩ <;> rcases key hh with ⟨rfl,rfl⟩ | ⟨kh,hh',rfl,rfl⟩ <;> rcases key hl with ⟨rfl,rfl⟩ | ⟨kl,l,rfl,rfl⟩ <;>
  simp only [Option.getD_none,Option.getD_some] at h1 h2 h3 h4 <;>
  (try omega) <;>
  simp only [Instr.sliceBounds,Sem.run_bind,Sem.run_pure,Result.andThen_ok,Option.getD_none,Option.getD_some,Int.toNat_natCast,Int.toNat_zero]
 ·rw [sliceBound_run h1 (by omega)];simp [Sem.run_pure]
 ·rw [sliceBound_run (by omega) (by omega)];simp [Sem.run_pure]
 ·rw [sliceBound_run (by omega) (by omega)]
  simp only [Result.andThen_ok]
  rw [sliceBound_run (by omega) (by omega)];simp [Sem.run_pure]
 ·rw [sliceBound_run (by omega) (by omega)]
  simp only [Result.andThen_ok]
  rw [sliceBound_run (by omega) (by omega)];simp [Sem.run_pure]
 ·rw [sliceBound_run (by omega) (by omega)]
  simp only [Result.andThen_ok]
  rw [sliceBound_run (by omega) (by omega)]
  simp only [Result.andThen_ok]
  rw [sliceBound_run (by omega) (by omega)];simp [Sem.run_pure]
theorem map_arr (l:Array Operand) (f:Operand→Value):l.map f=(l.toList.map f).toArray:=by
 cases l;simp
theorem map_parts (l:Array (Nat×Operand)) (f:Operand→Value):(l.map fun (i,x)=>(i,f x))=(l.toList.map fun p=>(p.1,f p.2)).toArray:=by
 cases l;simp
theorem run_callBuiltin {o:Oper} {b:Builtin} {args:Array Operand} {ts:Array TypeId} (ho:o.op=.call { callee:=.builtin b,args:=args,argTypes:=ts }) (ρ:Operand→Value) :
  ∃ cs,execOp ρ o=builtin b ts o.type cs (args.toList.map ρ).toArray:=by
 refine ⟨args.map fun | .const _=>true | _=>false,?_⟩
 simp only [execOp,ho,resolve,map_arr args ρ]
 rfl
theorem isSome_of {α:Type} {x:Option α} {p:Prop} (h:cond x.isSome p False):∃ i,x=some i∧p:=by
 cases x with
 | none=>exact h.elim
 | some i=>exact ⟨i,rfl,h⟩
set_option maxHeartbeats 1000000 in
theorem denQ_of {o:Oper} (h:denQ P A o e C K):∃ v,QRun P (execOp e.ev o) C v∧K v:=by
 unfold denQ at h
 split at h
 ·rename_i x ho;exact ⟨_,fun w hw=>by simp [execOp,ho,Sem.run_pure],h⟩
 ·rename_i x ho;exact ⟨_,fun w hw=>by simp [execOp,ho,Sem.run_pure],h⟩
 ·rename_i c a b ho
  split at h
  ·rename_i t hc
   have hrun:∀ w,C w→(execOp e.ev o).run P w=.ok (.value (cond t (e.ev a) (e.ev b))) w:=fun w _=>by
    simp only [execOp,ho,hc,asBool,Sem.run_bind,Sem.run_pure,Result.andThen_ok]
    cases t <;> rfl
   have hsv:∀ x:Operand,e.ev x=(e.sv x).v:=fun x=>by cases x <;> rfl
   split at h
   ·rename_i x y ha hb
    refine ⟨_,fun w hw=>(hrun w hw).trans ?_,h⟩
    rw [hsv a,hsv b,ha,hb]
    cases t <;> rfl
   ·rename_i x g y ha hb
    obtain ⟨rfl,h⟩:=h
    refine ⟨_,fun w hw=>(hrun w hw).trans ?_,h⟩
    rw [hsv a,hsv b,ha,hb]
    cases g <;> rfl
   ·rename_i g x y ha hb
    obtain ⟨rfl,h⟩:=h
    refine ⟨_,fun w hw=>(hrun w hw).trans ?_,h⟩
    rw [hsv a,hsv b,ha,hb]
    cases g <;> rfl
   ·rename_i x y _ ha hb
    refine ⟨cond t x y,fun w hw=>(hrun w hw).trans ?_,by cases t <;> exact h⟩
    rw [hsv a,hsv b,ha,hb]
    rfl
   ·exact h.elim
  ·exact h.elim
 ·rename_i t ad ho
  split at h
  ·rename_i b o' had
   have ha:=fun w=>sureAddr_run (P:=P) b o' w
   split at h
   ·rename_i n hk
    obtain ⟨cs,hs,hc,h⟩:=h
    refine ⟨_,?_,h⟩
    simp only [execOp,ho,had]
    refine QRun.of fun w hw=>?_
    simp only [Instr.loadAt,Sem.run_bind,ha,Result.andThen_ok]
    exact run_load_agg hk hs (fun i hi=>hc w hw i hi)
   ·rename_i hk
    obtain ⟨v,hv,h⟩:=h
    have hk':∀ n,kd1 P t ≠ .agg n:=fun n h=>hk n h
    obtain ⟨d,hu⟩:=kd1_some (P:=P) (t:=t) (fun hb=>by rw [hb] at h;exact opnF_bad h)
    refine ⟨v,?_,opnF_of h⟩
    simp only [execOp,ho,had]
    refine QRun.of fun w hw=>?_
    simp only [Instr.loadAt,Sem.run_bind,ha,Result.andThen_ok]
    exact run_load_one hu hk' (hv w hw)
  ·exact h.elim
 ·rename_i x ho
  split at h
  ·rename_i a hx;exact ⟨_,fun w hw=>by simp [execOp,ho,hx,Sem.run_pure],h⟩
  ·rename_i f fi ca hx;exact ⟨_,fun w hw=>by simp [execOp,ho,hx,Sem.run_pure],h⟩
  ·exact h.elim
 ·rename_i op t x y z ho
  obtain ⟨v,hv,h⟩:=denBin_of h
  refine ⟨v,?_,h⟩
  simp only [execOp,ho]
  exact QRun.of hv
 ·rename_i op t x ho
  split at h
  ·rename_i b hx;refine ⟨_,?_,h⟩;simp only [execOp,ho,hx];exact QRun.of fun w hw=>by simp [Op.unary,Sem.run_pure]
  ·rename_i k n hx;refine ⟨_,?_,h⟩;simp only [execOp,ho,hx];exact QRun.of fun w hw=>by simp [Op.unary,Op.intArith,Sem.run_pure]
  ·rename_i k n hx;refine ⟨_,?_,h⟩;simp only [execOp,ho,hx];exact QRun.of fun w hw=>by cases k <;> simp [Op.unary,Op.intBits,ibits,IntKind.signed,Sem.run_pure]
  ·exact h.elim
 ·rename_i src dst x ho
  split at h
  ·rename_i k k' q n hs hd hx
   refine ⟨_,?_,h⟩
   simp only [execOp,ho,hx]
   exact QRun.of fun w hw=>by simp [convert,Sem.run_bind,run_dr_underlying hs,run_dr_underlying hd,Conv.intToInt,Sem.run_pure]
  ·obtain ⟨v,hv,s,rfl,h⟩:=h
   refine ⟨_,?_,h⟩
   simp only [execOp,ho]
   exact QRun.of hv
  ·exact h.elim
 ·rename_i s x f ho
  split at h
  ·rename_i fs b o' hs hx
   split at h
   ·rename_i fd hf
    cases hz:Nat.beq (P.cellsOf fd.type) 0
    ·rw [hz] at h
     refine ⟨_,?_,h⟩
     simp only [execOp,ho,hx]
     have hne:P.cellsOf fd.type≠0:=fun h0=>by rw [h0] at hz;cases hz
     have hi:∃ i,P.info? fd.type=some i:=by
      cases hi:P.info? fd.type with
      | some i=>exact ⟨i,rfl⟩
      | none=>exact absurd (by simp [Program.cellsOf,hi]) hne
     obtain ⟨i,hi⟩:=hi
     have hf':fs[f]? = some fd:=by simpa using hf
     have hsz:i.size≠0:=by simpa [Program.cellsOf,hi] using hne
     exact QRun.of fun w hw=>by
      simp [Instr.fieldAt,Sem.run_bind,run_dr_underlying hs,hf',sureAddr_run,fieldPlace,sizeOf,run_typeInfo hi,hsz,addr_add,Sem.run_pure]
    ·rw [hz] at h;exact h.elim
   ·exact h.elim
  ·exact h.elim
 ·rename_i s x f ho
  split at h
  ·rename_i fs cs hs hx
   split at h
   ·rename_i fd hf
    obtain ⟨v,hv,h⟩:=partQ_of h
    refine ⟨v,?_,h⟩
    have hf':fs[f]? = some fd:=by simpa using hf
    simp only [execOp,ho,hx]
    exact QRun.of fun w hw=>by simp [Instr.field,Sem.run_bind,run_dr_underlying hs,hf',asAgg,Sem.run_pure,hv]
   ·exact h.elim
  ·exact h.elim
 ·rename_i t x i ho
  split at h
  ·rename_i n el b o' k i' ht hx hi
   obtain ⟨ie,hel,h⟩:=isSome_of h
   obtain ⟨⟨h0,h1⟩,h⟩:=h
   refine ⟨_,?_,h⟩
   simp only [execOp,ho,hx,hi]
   refine QRun.of fun w hw=>?_
   simp [Instr.indexAt,Sem.run_bind,asIntOf,run_dr_underlying ht,sureAddr_run,h0,h1,sizeOf,run_typeInfo hel,Program.cellsOf,hel,addr_add,Sem.run_pure]
  ·rename_i el p l c k i' ht hx hi
   obtain ⟨ie,hel,h⟩:=isSome_of h
   obtain ⟨b,o',rfl,h0,h1,h⟩:=h
   refine ⟨_,?_,h⟩
   simp only [execOp,ho,hx,hi]
   refine QRun.of fun w hw=>?_
   simp [Instr.indexAt,Sem.run_bind,asIntOf,run_dr_underlying ht,h0,h1,sizeOf,run_typeInfo hel,Program.cellsOf,hel,addr_add,Sem.run_pure]
  ·exact h.elim
 ·rename_i t x i ho
  split at h
  ·rename_i n el cs k i' ht hx hi
   obtain ⟨ie,hel,h⟩:=isSome_of h
   obtain ⟨⟨h0,h1⟩,h⟩:=h
   obtain ⟨v,hv,h⟩:=partQ_of h
   refine ⟨v,?_,h⟩
   simp only [execOp,ho,hx,hi]
   refine QRun.of fun w hw=>?_
   have hv':=hv w
   simp only [Program.cellsOf,hel,Option.map_some,Option.getD_some] at hv'
   simp [Instr.index,Sem.run_bind,asIntOf,run_dr_underlying ht,h0,h1,sizeOf,run_typeInfo hel,Sem.run_pure,hv']
  ·rename_i s k i' ht hx hi
   obtain ⟨b,h0,hb,h⟩:=h
   refine ⟨_,?_,h⟩
   simp only [execOp,ho,hx,hi]
   exact QRun.of fun w hw=>by simp [Instr.index,Sem.run_bind,asIntOf,run_dr_underlying ht,h0,hb,Sem.run_pure]
  ·exact h.elim
 ·rename_i t x lo hi mx ho
  split at h
  ·rename_i lo' hi' mx' hl hh hm
   split at h
   ·rename_i n el b o' ht hx
    obtain ⟨ie,hel,h⟩:=isSome_of h
    obtain ⟨l,u,m,hr,h⟩:=slc_run (P:=P) (b:=false) hl hh hm h
    refine ⟨_,?_,h⟩
    simp only [execOp,ho,hx]
    refine QRun.of fun w hw=>?_
    simp only [Instr.sliceAt,Sem.run_bind,run_dr_underlying ht,Result.andThen_ok,sureAddr_run,hr,sizeOf,run_typeInfo hel,Sem.run_pure,slcP,Program.cellsOf,hel,Option.map_some,Option.getD_some]
    split <;> rfl
   ·rename_i el p len cap ht hx
    obtain ⟨ie,hel,h⟩:=isSome_of h
    obtain ⟨l,u,m,hr,h⟩:=slc_run (P:=P) (b:=true) hl hh hm h
    refine ⟨_,?_,h⟩
    simp only [execOp,ho,hx]
    refine QRun.of fun w hw=>?_
    simp only [Instr.sliceAt,Sem.run_bind,run_dr_underlying ht,Result.andThen_ok,Instr.slice,hr,sizeOf,run_typeInfo hel,Sem.run_pure,slcP,Program.cellsOf,hel,Option.map_some,Option.getD_some]
   ·rename_i s ht hx
    split at h
    ·obtain ⟨l,u,m,hr,h⟩:=slc_run (P:=P) (b:=false) (mx:=none) hl hh rfl h
     have hmx:mx.map e.ev=none:=by
      cases mx with
      | none=>rfl
      | some z=>simp only [Option.map_some] at hm;unfold intOf? at hm;split at hm <;> simp_all
     refine ⟨_,?_,h⟩
     simp only [execOp,ho,hx,hmx]
     refine QRun.of fun w hw=>?_
     simp [Instr.sliceAt,Sem.run_bind,run_dr_underlying ht,Instr.slice,hr,Sem.run_pure]
    ·exact h.elim
   ·exact h.elim
  ·exact h.elim
 ·rename_i t x i ok ho
  obtain ⟨v,hv,h⟩:=h
  refine ⟨v,?_,opn_of h⟩
  simp only [execOp,ho]
  exact QRun.of hv
 ·rename_i x ho
  obtain ⟨v,hv,h⟩:=h
  refine ⟨v,?_,opn_of h⟩
  simp only [execOp,ho]
  exact QRun.of hv
 ·rename_i t i ho
  split at h
  ·rename_i vs ht
   split at h
   ·rename_i v hv
    refine ⟨v,?_,h⟩
    simp only [execOp,ho,ht]
    have hv':vs[i]? = some v:=by simpa using hv
    exact QRun.of fun w hw=>by simp [Instr.extract,hv',Sem.run_pure]
   ·exact h.elim
  ·exact h.elim
 ·rename_i t parts ho
  obtain ⟨v,hv,cs,rfl,_,h⟩:=h
  refine ⟨_,?_,h⟩
  simp only [execOp,ho,map_parts]
  exact QRun.of hv
 ·rename_i fn fi ca ho
  refine ⟨_,?_,h⟩
  simp only [execOp,ho,map_arr]
  exact QRun.of fun w hw=>by simp [Instr.makeFunc,Sem.run_pure]
 ·rename_i t x ho
  split at h
  ·rename_i n el p l c ht hx
   obtain ⟨b,o',rfl,hn,h⟩:=h
   refine ⟨_,?_,h⟩
   simp only [execOp,ho,hx]
   exact QRun.of fun w hw=>by simp [Instr.arrayAt,Sem.run_bind,run_dr_underlying ht,show ¬ l<n by omega,Sem.run_pure]
  ·exact h.elim
 ·rename_i args ts ho
  split at h
  ·rename_i x t ha ht
   have hts:ts=#[t]:=by cases ts;simp_all
   obtain ⟨c,hc⟩:=run_callBuiltin ho e.ev
   rw [ha,hts] at hc
   rw [hc]
   simp only [List.map_cons,List.map_nil]
   split at h
   ·rename_i el p n c' hu hx
    refine ⟨_,?_,h⟩
    simp only [hx,builtin]
    exact QRun.of fun w hw=>by simp [Builtin.len_,Sem.run_bind,run_dr_underlying hu,Sem.run_pure,goInt]
   ·rename_i s hu hx
    refine ⟨_,?_,h⟩
    simp only [hx,builtin]
    exact QRun.of fun w hw=>by simp [Builtin.len_,Sem.run_bind,run_dr_underlying hu,Sem.run_pure,goInt]
   ·rename_i n el v hu
    refine ⟨_,?_,h⟩
    simp only [builtin]
    exact QRun.of fun w hw=>by simp [Builtin.len_,Sem.run_bind,run_dr_underlying hu,Sem.run_pure,goInt]
   ·rename_i k el v hu
    obtain ⟨v,hv,n,rfl,h⟩:=h
    refine ⟨_,?_,h⟩
    simp only [builtin]
    exact QRun.of hv
   ·exact h.elim
  ·exact h.elim
 ·rename_i args ts ho
  split at h
  ·rename_i x t ha ht
   have hts:ts=#[t]:=by cases ts;simp_all
   obtain ⟨c,hc⟩:=run_callBuiltin ho e.ev
   rw [ha,hts] at hc
   rw [hc]
   simp only [List.map_cons,List.map_nil]
   split at h
   ·rename_i el p n c' hu hx
    refine ⟨_,?_,h⟩
    simp only [hx,builtin]
    exact QRun.of fun w hw=>by simp [Builtin.cap_,Sem.run_bind,run_dr_underlying hu,Sem.run_pure,goInt]
   ·exact h.elim
  ·exact h.elim
 ·rename_i args ts ho
  obtain ⟨v,hv,h⟩:=h
  obtain ⟨c,hc⟩:=run_callBuiltin ho e.ev
  refine ⟨v,?_,opn_of h⟩
  rw [hc]
  exact QRun.of hv
 ·rename_i args ts ho
  obtain ⟨v,hv,h⟩:=h
  obtain ⟨c,hc⟩:=run_callBuiltin ho e.ev
  refine ⟨v,?_,opn_of h⟩
  rw [hc]
  exact QRun.of hv
 ·exact h.elim
end sound
def OpX (v:Value) (K:Value→Value→Prop) (q:Prop):Prop:=(∃ k x,v=.tuple #[.bool true,k,x]∧K k x)∨(v=.tuple #[.bool false]∧q)
def denCall (P:Program) (A:Ann) (o:Oper) (e:Env) (w:World) (c:Call) (K:Value→World→Prop):Prop :=
 match c.callee with
 | .value f=>match e.ev f with
  | .func (.func g) fi ca=>cond (okCall P g)
    (zB P g (fi.toList++c.args.toList.map e.ev++ca.toList).toArray w fun v w'=>opn (A.callNl o.dst) (kd P o.type) v fun v=>K v w')
    (DoN P (callFunc g (fi.toList++c.args.toList.map e.ev++ca.toList).toArray) w fun v w'=>opn (A.callNl o.dst) (kd P o.type) v fun v=>K v w')
  | _=>False
 | .builtin .append=>DoV P (Builtin.append_ c.argTypes o.type (c.args.toList.map e.ev).toArray) w fun v w'=>OpS v fun p l q=>K (.slice p l q) w'
 | .builtin .copy=>DoV P (Builtin.copy_ c.argTypes o.type (c.args.toList.map e.ev).toArray) w fun v w'=>OpI .i64 v fun n=>K (.int .i64 n) w'
 | .builtin .delete=>DoV P (Builtin.delete_ c.argTypes o.type (c.args.toList.map e.ev).toArray) w K
 | .builtin .clear=>DoV P (Builtin.clear_ c.argTypes o.type (c.args.toList.map e.ev).toArray) w K
 | _=>denQ P A o e (At w) fun v=>K v w
def denL (P:Program) (A:Ann) (o:Oper) (e:Env) (w:World) (K:Value→World→Prop):Prop :=
 match o.op with
 | .alloc t=>match (P.info? t).bind (·.zero) with
  | some z=>Alc t z.cells w fun b w'=>K (.pointer (some ⟨b,0,none⟩)) w'
  | none=>False
 | .box t x=>Alc t (e.ev x).cells w fun b w'=>K (.pointer (some ⟨b,0,none⟩)) w'
 | .store t ad x=>match e.ev ad with
  | .pointer (some ⟨b,o',none⟩)=>match kd1 P t with
   | .agg n=>match e.ev x with
    | .agg cs=>StA n b o' cs w fun w'=>K undef w'
    | _=>False
   | .bad=>False
   | _=>cond (Nat.beq (P.cellsOf t) 1) (StV b o' (e.ev x) w fun w'=>K undef w') False
  | _=>False
 | .buildSlice t len parts=>DoV P (Instr.buildSlice t len (parts.toList.map fun p=>(p.1,e.ev p.2)).toArray) w fun v w'=>OpS v fun p l c=>K (.slice p l c) w'
 | .makeSlice t l c=>DoV P (Instr.makeSlice t (e.ev l) (e.ev c)) w fun v w'=>OpS v fun p l c=>K (.slice p l c) w'
 | .makeMap t r=>DoV P (Instr.makeMap t (r.map e.ev)) w fun v w'=>OpM v fun m=>K (.map m) w'
 | .mapUpdate t m k x=>DoU P (Instr.mapUpdate t (e.ev m) (e.ev k) (e.ev x)) w fun w'=>K undef w'
 | .insert t m k x=>DoU P (Instr.mapUpdate t (e.ev m) (e.ev k) (e.ev x)) w fun w'=>K undef w'
 | .mapEntry t m k=>DoV P (Instr.mapEntry t (e.ev m) (e.ev k)) w K
 | .entryStore t m s x=>DoU P (Instr.entryStore t (e.ev m) (e.ev s) (e.ev x)) w fun w'=>K undef w'
 | .range t x=>DoV P (Instr.range t (e.ev x)) w fun v w'=>OpN v fun b o'=>K (.pointer (some ⟨b,o',none⟩)) w'
 | .next it st=>DoV P (Instr.next (e.ev it) st o.type) w fun v w'=>OpX v (fun k x=>K (.tuple #[.bool true,k,x]) w') (K (.tuple #[.bool false]) w')
 | .convert src dst x=>match P.underlying dst with
  | some (.slice _)=>DoV P (convert src dst (e.ev x)) w fun v w'=>OpS v fun p l c=>K (.slice p l c) w'
  | _=>denQ P A o e (At w) fun v=>K v w
 | .call c=>denCall P A o e w c K
 | _=>denQ P A o e (At w) fun v=>K v w
section sound2
variable {P:Program} {A:Ann} {e:Env} {w:World}
theorem spl_cons (c:Array Value) (o:Nat) (v:Value) (cs:List Value) (h:o<c.size) :
  spl (c.setIfInBounds o v) (o+1) cs.toArray=spl c o (v::cs).toArray:=by
 have hl:o<c.toList.length:=by simpa using h
 apply Array.ext'
 simp only [spl,Array.toList_setIfInBounds,List.size_toArray,List.length_cons]
 rw [List.take_add_one]
 simp only [List.take_set,List.getElem?_set_self hl,Option.toList_some]
 rw [List.set_eq_of_length_le (by simp;omega)]
 rw [List.drop_set_of_lt (by omega)]
 simp [List.append_assoc,Nat.add_assoc,Nat.add_comm 1]
theorem putRow_cons (w:World) (b o:Nat) (v:Value) (cs:List Value) {c:Array Value} {t:TypeId} {f:Nat×Nat} (hb:w.heap[b]? = some (.cells c t f)) (h:o<c.size) :
  (w.setCell ⟨b,o,none⟩ v).putRow b (o+1) cs.toArray=w.putRow b o (v::cs).toArray:=by
 unfold World.putRow World.setCell
 congr 1
 apply Array.ext_getElem?
 intro i
 simp only [Array.getElem?_modify]
 by_cases hi:b=i
 ·subst hi
  simp only [if_true,hb,Option.map_some]
  simp [spl_cons c o v cs h]
 ·simp [hi]
theorem putRow_nil (w:World) (b o:Nat):w.putRow b o #[]=w:=by
 unfold World.putRow
 have:(w.heap.modify b fun | .cells c t f=>.cells (spl c o #[]) t f | x=>x)=w.heap:=by
  apply Array.ext_getElem?
  intro i
  simp only [Array.getElem?_modify]
  by_cases hi:b=i
  ·subst hi
   simp only [if_true]
   cases h:w.heap[b]? with
   | none=>rfl
   | some x=>cases x <;> simp [spl]
  ·simp [hi]
 rw [this]
theorem run_storeCells (b:Nat) (P:Program):∀ (cs:List Value) (o i:Nat) (w:World),(∀ v∈cs,oneV v=true)→(∃ c t,w.heap[b]? = some (.cells c t (0,0))∧o+i+cs.length≤c.size) →
  (storeCells ⟨b,o,none⟩ cs i).run P w=.ok () (w.putRow b (o+i) cs.toArray)
 | [],o,i,w,_,_=>by simp [storeCells,Sem.run_pure,putRow_nil]
 | v::cs,o,i,w,h1,⟨c,t,hb,hs⟩=>by
  simp only [List.length_cons] at hs
  have hv:=h1 v (List.mem_cons_self ..)
  have hlt:o+i<c.size:=by omega
  have hcell:w.cell? ⟨b,o+i,none⟩=some c[o+i]:=by simp [World.cell?,hb,hlt]
  have hfr:w.frozen? ⟨b,o+i,none⟩=false:=by simp [World.frozen?,hb]
  have hst:(store ⟨b,o+i,none⟩ v).run P w=.ok () (w.setCell ⟨b,o+i,none⟩ v):=by
   unfold store
   cases v <;> first | (cases hv;done) | (simp [Sem.run,hcell,hfr])
  simp only [storeCells,addr_add,Sem.run_bind,hst,Result.andThen_ok]
  have hb':(w.setCell ⟨b,o+i,none⟩ v).heap[b]? = some (.cells (c.setIfInBounds (o+i) v) t (0,0)):=by
   simp [World.setCell,Array.getElem?_modify,hb]
  rw [run_storeCells b P cs o (i+1) _ (fun u hu=>h1 u (List.mem_cons_of_mem _ hu)) ⟨_,t,hb',by simp;omega⟩]
  rw [← Nat.add_assoc,putRow_cons w b (o+i) v cs hb hlt]
theorem wp_value {o:Oper} {a:Act} {next:Act→World→Prop} {Q:Exit→Act→World→Prop} {v:Value} {w':World} (h:(execOp a.eval o).run P w=.ok (.value v) w') (hn:next (a.put o.dst v) w') :
  o.wp P a w next Q:=by unfold Oper.wp;rw [h];exact hn
theorem wp_skip' {o:Oper} {a:Act} {next:Act→World→Prop} {Q:Exit→Act→World→Prop} {w':World} (h:(execOp a.eval o).run P w=.ok .skip w') (hn:next (a.put o.dst undef) w') :
  o.wp P a w next Q:=by unfold Oper.wp;rw [h];exact hn
theorem run_v {s:Sem Value} {v:Value} {w':World} (h:s.run P w=.ok v w'):(do pure (.value (← s)):Sem Next).run P w=.ok (.value v) w':=by
 rw [Sem.run_bind,h];rfl
theorem run_u {s:Sem Unit} {w':World} (h:s.run P w=.ok () w'):(do s;pure .skip:Sem Next).run P w=.ok .skip w':=by
 rw [Sem.run_bind,h];rfl
theorem wp_quiet {o:Oper} {a:Act} {next:Act→World→Prop} {Q:Exit→Act→World→Prop} {K:Value→World→Prop} (he:a.eval=e.ev) (h:denQ P A o e (At w) fun v=>K v w)
  (hn:∀ v w',K v w'→next (a.put o.dst v) w'):o.wp P a w next Q:=by
 obtain ⟨v,hv,h⟩:=denQ_of h
 exact wp_value (by rw [he];exact hv w ⟨w.drawn,rfl⟩) (hn _ _ h)
theorem okCall_run {g:FuncId} (h:okCall P g=true) (args:Array Value) (w:World):(callFunc g args).run P w=.ok (.enter g args) w:=by
 unfold okCall at h
 split at h
 ·rename_i fn hf
  simp only [Bool.and_eq_true,Bool.not_eq_true'] at h
  obtain ⟨h1,h2⟩:=h
  simp only [callFunc,program,Sem.run_bind,Sem.run,Result.andThen_ok,hf,h1,h2]
  simp [Sem.run_pure]
 ·cases h
theorem denCall_of {o:Oper} {a:Act} {next:Act→World→Prop} {Q:Exit→Act→World→Prop} {c:Call} {K:Value→World→Prop} (ho:o.op=.call c) (he:a.eval=e.ev)
  (h:denCall P A o e w c K) (hn:∀ v w',K v w'→next (a.put o.dst v) w'):o.wp P a w next Q:=by
 obtain ⟨callee,args,ts⟩:=c
 unfold denCall at h
 split at h
 ·rename_i f hc
  simp only at hc
  subst hc
  split at h
  ·rename_i g fi ca hf
   have hr:(execOp a.eval o).run P w=(callFunc g (fi.toList++args.toList.map e.ev++ca.toList).toArray).run P w:=by
    simp only [execOp,ho,he,resolve,hf,Deferred.ofValue,Sem.run_bind,Sem.run_pure,Result.andThen_ok,invoke]
    congr 2
    apply Array.ext'
    simp
   cases hk:okCall P g
   ·rw [hk] at h
    obtain ⟨v,w',hv,h⟩:=h
    exact wp_value (hr.trans hv) (hn _ _ (opn_of h))
   ·rw [hk] at h
    unfold Oper.wp
    rw [hr,okCall_run hk]
    exact Calls.mono h fun e w' ⟨v,hv,hK⟩=>by subst hv;exact hn _ _ (opn_of hK)
  ·exact h.elim
 ·rename_i hc;simp only at hc;subst hc
  obtain ⟨cs,hcs⟩:=run_callBuiltin ho e.ev
  obtain ⟨v,w',hv,p,l,q,rfl,h⟩:=h
  exact wp_value (by rw [he,hcs];exact run_v hv) (hn _ _ h)
 ·rename_i hc;simp only at hc;subst hc
  obtain ⟨cs,hcs⟩:=run_callBuiltin ho e.ev
  obtain ⟨v,w',hv,n,rfl,h⟩:=h
  exact wp_value (by rw [he,hcs];exact run_v hv) (hn _ _ h)
 ·rename_i hc;simp only at hc;subst hc
  obtain ⟨cs,hcs⟩:=run_callBuiltin ho e.ev
  obtain ⟨v,w',hv,h⟩:=h
  exact wp_value (by rw [he,hcs];exact run_v hv) (hn _ _ h)
 ·rename_i hc;simp only at hc;subst hc
  obtain ⟨cs,hcs⟩:=run_callBuiltin ho e.ev
  obtain ⟨v,w',hv,h⟩:=h
  exact wp_value (by rw [he,hcs];exact run_v hv) (hn _ _ h)
 ·exact wp_quiet he h hn
theorem denL_of {o:Oper} {a:Act} {next:Act→World→Prop} {Q:Exit→Act→World→Prop} {K:Value→World→Prop} (he:a.eval=e.ev)
  (h:denL P A o e w K) (hn:∀ v w',K v w'→next (a.put o.dst v) w'):o.wp P a w next Q:=by
 unfold denL at h
 split at h
 ·rename_i t ho
  split at h
  ·rename_i z hz
   have hi:∃ i,P.info? t=some i∧i.zero=some z:=by
    cases hi:P.info? t with
    | none=>simp [hi] at hz
    | some i=>exact ⟨i,rfl,by simpa [hi] using hz⟩
   obtain ⟨i,hi,hz'⟩:=hi
   refine wp_value (v:=.pointer (some ⟨w.heap.size,0,none⟩)) (w':=w.alloc (.cells z.cells t)) ?_ (hn _ _ h)
   simp only [execOp,ho]
   refine run_v ?_
   simp only [Instr.alloc,zeroValue,Sem.run_bind,run_typeInfo hi,Result.andThen_ok,hz',Sem.run_pure,newVar,newRow,newObj,Sem.run]
   rfl
  ·exact h.elim
 ·rename_i t x ho
  refine wp_value (v:=.pointer (some ⟨w.heap.size,0,none⟩)) (w':=w.alloc (.cells (e.ev x).cells t)) ?_ (hn _ _ h)
  simp only [execOp,ho,he]
  refine run_v ?_
  simp only [Instr.box,newVar,newRow,newObj,Sem.run_bind,Sem.run,Result.andThen_ok,Sem.run_pure]
  rfl
 ·rename_i t ad x ho
  split at h
  ·rename_i b o' had
   split at h
   ·rename_i n hk
    split at h
    ·rename_i cs hx
     obtain ⟨hs,h1,⟨c,ty,hb,hle⟩,h⟩:=h
     obtain ⟨hh,hn'⟩:=kd1_agg hk
     have hu:∃ d,P.underlying t=some d:=by rcases hh with ⟨_,h⟩ | ⟨_,_,h⟩ <;> exact ⟨_,h⟩
     obtain ⟨d,hu⟩:=hu
     refine wp_skip' (w':=w.putRow b o' cs) ?_ (hn _ _ h)
     simp only [execOp,ho,he,had,hx]
     refine run_u ?_
     have hst:=run_storeCells b P cs.toList o' 0 w h1 ⟨c,ty,hb,by simpa [hs] using hle⟩
     simp only [Instr.storeAt,Sem.run_bind,sureAddr_run,Result.andThen_ok,storeVar,run_sizeOf hu,Value.cells,hs,hn',ne_eq,not_true_eq_false,if_false,Sem.run_pure]
     simpa using hst
    ·exact h.elim
   ·exact h.elim
   ·rename_i hk1 hk2
    cases hsz:Nat.beq (P.cellsOf t) 1
    ·rw [hsz] at h;exact h.elim
    ·rw [hsz] at h
     obtain ⟨h1,⟨u,hu⟩,hf,h⟩:=h
     have hc:P.cellsOf t=1:=Nat.eq_of_beq_eq_true hsz
     obtain ⟨d,hd⟩:=kd1_some (P:=P) (t:=t) (fun hb=>hk2 hb)
     refine wp_skip' (w':=w.setCell ⟨b,o',none⟩ (e.ev x)) ?_ (hn _ _ h)
     simp only [execOp,ho,he,had]
     refine run_u ?_
     have hcells:(e.ev x).cells=#[e.ev x]:=by
      cases hx:e.ev x <;> first | rfl | (rw [hx] at h1;cases h1)
     simp only [Instr.storeAt,Sem.run_bind,sureAddr_run,Result.andThen_ok,storeVar,run_sizeOf hd,hcells,hc,List.size_toArray,List.length_cons,List.length_nil,Nat.zero_add,ne_eq,not_true_eq_false,if_false,Sem.run_pure]
     have hst:(store ⟨b,o',none⟩ (e.ev x)).run P w=.ok () (w.setCell ⟨b,o',none⟩ (e.ev x)):=by
      unfold store
      cases hx:e.ev x <;> first | (rw [hx] at h1;cases h1;done) | (simp [Sem.run,hu,hf])
     simp only [storeCells,addr_add,Nat.add_zero,Sem.run_bind,hst,Result.andThen_ok,Sem.run_pure]
  ·exact h.elim
 ·rename_i t len parts ho
  obtain ⟨v,w',hv,p,l,c,rfl,h⟩:=h
  exact wp_value (by simp only [execOp,ho,he,map_parts];exact run_v hv) (hn _ _ h)
 ·rename_i t l c ho
  obtain ⟨v,w',hv,p,l,c,rfl,h⟩:=h
  exact wp_value (by simp only [execOp,ho,he];exact run_v hv) (hn _ _ h)
 ·rename_i t r ho
  obtain ⟨v,w',hv,m,rfl,h⟩:=h
  exact wp_value (by simp only [execOp,ho,he];exact run_v hv) (hn _ _ h)
 ·rename_i t m k x ho
  obtain ⟨w',hv,h⟩:=h
  exact wp_skip' (by simp only [execOp,ho,he];exact run_u hv) (hn _ _ h)
 ·rename_i t m k x ho
  obtain ⟨w',hv,h⟩:=h
  exact wp_skip' (by simp only [execOp,ho,he];exact run_u hv) (hn _ _ h)
 ·rename_i t m k ho
  obtain ⟨v,w',hv,h⟩:=h
  exact wp_value (by simp only [execOp,ho,he];exact run_v hv) (hn _ _ h)
 ·rename_i t m st x ho
  obtain ⟨w',hv,h⟩:=h
  exact wp_skip' (by simp only [execOp,ho,he];exact run_u hv) (hn _ _ h)
 ·rename_i t x ho
  obtain ⟨v,w',hv,b,o',rfl,h⟩:=h
  exact wp_value (by simp only [execOp,ho,he];exact run_v hv) (hn _ _ h)
 ·rename_i it st ho
  obtain ⟨v,w',hv,h⟩:=h
  refine wp_value (v:=v) (w':=w') (by simp only [execOp,ho,he];exact run_v hv) ?_
  rcases h with ⟨k,x,rfl,h⟩ | ⟨rfl,h⟩ <;> exact hn _ _ h
 ·rename_i src dst x ho
  split at h
  ·obtain ⟨v,w',hv,p,l,c,rfl,h⟩:=h
   exact wp_value (by simp only [execOp,ho,he];exact run_v hv) (hn _ _ h)
  ·exact wp_quiet he h hn
 ·rename_i c ho
  exact denCall_of ho he h hn
 ·exact wp_quiet he h hn
end sound2
def simpleB:BinOp→Bool
 | .quo | .rem | .shl | .shr=>false
 | _=>true
def isK:Operand→Bool
 | .const _=>true
 | _=>false
def pureOp (P:Program):Op→Bool
 | .move _ | .assign _=>true
 | .binOp op t _ y _=>match kd1 P t with
  | .int _=>simpleB op
  | .bool=>simpleB op
  | .ptr=>isK y
  | .slice=>isK y
  | _=>false
 | .unOp op _ _=>match op with
  | .not=>true
  | _=>false
 | .convert src dst _=>match kd1 P src,kd1 P dst with
  | .int _,.int _=>true
  | _,_=>false
 | _=>false
def flatPure (P:Program) (ops:List Oper) (j:Nat):Bool :=
 (match ops[j]? with
  | some o=>o.guard.isNone
  | none=>false) &&
 ops.all fun o=>match o.guard with
  | none=>true
  | some (i,_)=>cond (Nat.beq i j) (pureOp P o.op) (match ops[i]? with
   | some t=>match t.guard with
    | some (i',_) => !(Nat.beq i' j)
    | none=>true
   | none=>true)
def fetG (e:Env) (b want:Bool) (x:Operand) (K:Value→Prop):Prop:=match e.sv x with
 | .val v=>K v
 | .gd g w v=>cond (w==want) (Req (g=b) (K v)) False
def pureG (P:Program) (o:Oper) (e:Env) (C:World→Prop) (b want:Bool) (K:Value→Prop):Prop:=match o.op with
 | .move x=>fetG e b want x K
 | .assign x=>fetG e b want x K
 | .binOp op t x y _=>fetG e b want x fun u=>fetG e b want y fun v=>denBin P op t x y C K u v
 | .unOp .not _ x=>fetG e b want x fun u=>match u with
  | .bool t=>K (.bool (!t))
  | _=>False
 | .convert src dst x=>fetG e b want x fun u=>match P.underlying src,P.underlying dst,u with
  | some (.int _),some (.int k'),.int _ n=>K (.int k' (k'.wrap n))
  | _,_,_=>False
 | _=>False
def gd (P:Program) (ops:Array Oper) (o:Oper) (e:Env) (C:World→Prop) (yes no:Env→Prop) (pur:SV→Prop):Prop :=
 match o.guard with
 | none=>yes e
 | some (j,want)=>match (ops.toList[j]?).bind (·.dst) with
  | none=>no e
  | some d=>match e.t d with
   | .val (.bool b)=>cond (flatPure P ops.toList j)
    (pureG P o e C b want fun v=>pur (.gd b want v))
    (Cb b (cond want (yes (e.put (some d) (.bool true))) (no (e.put (some d) (.bool true)))) (cond want (no (e.put (some d) (.bool false))) (yes (e.put (some d) (.bool false)))))
   | .val _=>no e
   | .gd _ _ _=>False
def denOps (P:Program) (A:Ann) (n:Nat) (ops:Array Oper) (K:Env→World→Prop):List Oper→Env→World→Prop
 | [],e,w=>K e w
 | o::rest,e,w=>cond (dstOk n o.dst)
  (gd P ops o e (At w)
   (fun e=>match o.op with
    | .defer c=>match c.callee with
     | .value f=>match e.ev f with
      | .func fn fi ca=>denOps P A n ops K rest ((⟨e.t,{ target:=.fn fn ca,args:=(fi.toList++c.args.toList.map e.ev).toArray }::e.d⟩:Env).put o.dst undef) w
      | _=>False
     | _=>False
    | _=>denL P A o e w fun v w'=>denOps P A n ops K rest (e.put o.dst v) w')
   (fun e=>denOps P A n ops K rest (e.put o.dst undef) w)
   (fun v=>denOps P A n ops K rest (e.puts o.dst v) w))
  False
def denQC (P:Program) (A:Ann) (o:Oper) (e:Env) (C:World→Prop) (K:Value→Prop):Prop :=
 match o.op with
 | .call { callee:=.value f,args,argTypes:=_ }=>match e.ev f with
  | .func (.func g) fi ca=>cond (okCall P g) (CallQ P g (fi.toList++args.toList.map e.ev++ca.toList).toArray C fun v=>opn (A.callNl o.dst) (kd P o.type) v K) False
  | _=>False
 | _=>denQ P A o e C K
def denSC (P:Program) (A:Ann) (o:Oper) (e:Env) (w:World) (K:Value→Prop):Prop :=
 match o.op with
 | .call { callee:=.value f,args,argTypes:=_ }=>match e.ev f with
  | .func (.func g) fi ca=>cond (okCall P g) (CallS P g (fi.toList++args.toList.map e.ev++ca.toList).toArray w fun v=>opn (A.callNl o.dst) (kd P o.type) v K) False
  | _=>False
 | _=>denQ P A o e (At w) K
def denQs (P:Program) (A:Ann) (n:Nat) (ops:Array Oper) (w:World) (K:Env→Prop):List Oper→Env→Prop
 | [],e=>K e
 | o::rest,e=>cond (dstOk n o.dst)
  (gd P ops o e (At w) (fun e=>denQC P A o e (At w) fun v=>denQs P A n ops w K rest (e.put o.dst v)) (fun e=>denQs P A n ops w K rest (e.put o.dst undef)) (fun v=>denQs P A n ops w K rest (e.puts o.dst v))) False
def denSs (P:Program) (A:Ann) (n:Nat) (ops:Array Oper) (w:World) (K:Env→Prop):List Oper→Env→Prop
 | [],e=>K e
 | o::rest,e=>cond (dstOk n o.dst)
  (gd P ops o e (At w) (fun e=>denSC P A o e w fun v=>denSs P A n ops w K rest (e.put o.dst v)) (fun e=>denSs P A n ops w K rest (e.put o.dst undef)) (fun v=>denSs P A n ops w K rest (e.puts o.dst v))) False
def loudOp:Op→Bool
 | .alloc _ | .box _ _ | .store _ _ _ | .buildSlice _ _ _ | .makeSlice _ _ _ | .makeMap _ _ | .mapUpdate _ _ _ _ | .insert _ _ _ _ | .mapEntry _ _ _ | .entryStore _ _ _ _ | .range _ _ | .next _ _=>true
 | .call { callee:=.builtin .append,.. } | .call { callee:=.builtin .copy,.. } | .call { callee:=.builtin .delete,.. } | .call { callee:=.builtin .clear,.. } | .call { callee:=.value _,.. }=>true
 | _=>false
def quietable:Op→Bool
 | .call { callee:=.value _,.. }=>true
 | op => !loudOp op
def tailAt:List Oper→Nat→Nat
 | [],i=>i
 | o::r,i=>cond (loudOp o.op) i (tailAt r (i+1))
def tailAt2:List Oper→Nat→Nat
 | [],i=>i
 | o::r,i=>cond (quietable o.op) (tailAt2 r (i+1)) i
def isDef':Op→Bool
 | .defer _=>true
 | _=>false
def takeB (ops:Array Oper) (listed:Array Bool) (i:Nat):Bool:=match ops.toList[i]? with
 | some o => !loudOp o.op && Region.free .any ops listed i
 | none=>false
def allOf:List Nat→(Nat→Prop)→Prop
 | [],_=>True
 | [i],f=>f i
 | i::j::r,f=>f i∧allOf (j::r) f
def quietB (ops:Array Oper) (i:Nat):Bool:=match ops.toList[i]? with
 | some o => !loudOp o.op
 | none=>false
def bindB (i:Nat) (e:Edge):Bool:=Region.binds .any e && Nat.beq e.on i
def unboundB (i:Nat):List Oper→List Bool→Nat→Bool
 | [],_,_=>false
 | o::r,l,j=>(loudOp o.op && !(Nat.beq j i) && !(l.headD false) && !(o.after.toList.any (bindB i))) || unboundB i r l.tail (j+1)
def boundB (ops:Array Oper) (listed:Array Bool) (i:Nat):Bool := !(unboundB i ops.toList listed.toList 0)
def waitsAll (o:Oper) (j:Nat):Nat→Bool
 | 0=>true
 | k+1=>(Nat.beq k j || o.after.toList.any (bindB k)) && waitsAll o j k
def lastB (ops:Array Oper) (j:Nat):Bool:=match ops.toList[j]? with
 | some o=>waitsAll o j ops.size
 | none=>false
def denH (P:Program) (A:Ann) (n:Nat) (ops:Array Oper) (S:World→Prop) (K:Env→World→Prop):Nat→Array Bool→Env→World→Prop
 | 0,listed,e,w=>match Region.ready .any ops listed with
  | []=>K e w
  | _::_=>False
 | f+1,listed,e,w=>match Region.ready .any ops listed with
  | []=>K e w
  | i::rs=>match (i::rs).find? (takeB ops listed) with
   | some j=>match ops.toList[j]? with
    | some o=>cond (dstOk n o.dst)
     (gd P ops o e (cond (boundB ops listed j) (At w) S) (fun e=>denQ P A o e (cond (boundB ops listed j) (At w) S) fun v=>denH P A n ops S K f (listed.setIfInBounds j true) (e.put o.dst v) w)
      (fun e=>denH P A n ops S K f (listed.setIfInBounds j true) (e.put o.dst undef) w) (fun v=>denH P A n ops S K f (listed.setIfInBounds j true) (e.puts o.dst v) w)) False
    | none=>False
   | none=>allOf (i::rs) fun j=>match ops.toList[j]? with
    | some o=>cond (dstOk n o.dst && !isDef' o.op)
     (gd P ops o e (At w) (fun e=>cond (loudOp o.op) (denL P A o e w fun v w'=>cond (A.nilable 300000 && lastB ops j) (match Region.ready .any ops (listed.setIfInBounds j true) with
           | []=>K (e.put o.dst v) w'
           | _::_=>False) (Hld (S w') (denH P A n ops S K f (listed.setIfInBounds j true) (e.put o.dst v) w')))
       (denQ P A o e (At w) fun v=>Hld (S w) (denH P A n ops S K f (listed.setIfInBounds j true) (e.put o.dst v) w)))
      (fun e=>Hld (S w) (denH P A n ops S K f (listed.setIfInBounds j true) (e.put o.dst undef) w)) (fun v=>Hld (S w) (denH P A n ops S K f (listed.setIfInBounds j true) (e.puts o.dst v) w))) False
    | none=>False
def marked (A:Ann) (o:Oper):Bool:=A.nl o.dst && quietable o.op && loudOp o.op
def counted (A:Ann) (o:Oper):Bool:=match A.fn o.dst with
 | some 0=>true
 | _=>false
def denDraw (P:Program) (A:Ann) (n:Nat) (ops:Array Oper) (K:Env→World→Prop) (e:Env) (w:World):Prop :=
 cond (ops.toList.any (marked A))
  (cond (Region.noSelect ops)
   (cond (ops.toList.any (counted A)) (HeldD w fun S w=>denH P A n ops S K ops.size (Array.replicate ops.size false) e w)
    (HeldR w fun S w=>denH P A n ops S K ops.size (Array.replicate ops.size false) e w))
   False)
 (cond (ops.toList.all (fun o=>quietable o.op) && Region.lexB .any ops)
  (denQs P A n ops w (fun e=>Drw w fun w=>K e w) ops.toList e)
  (cond (Region.lexTailB .any ops (tailAt ops.toList 0))
   (Dr1 w fun w=>denSs P A n ops w (fun e=>denOps P A n ops K (ops.toList.drop (tailAt ops.toList 0)) e w) (ops.toList.take (tailAt ops.toList 0)) e)
   (cond (Region.lexTailB .any ops (tailAt2 ops.toList 0))
    (Dr1 w fun w=>denSs P A n ops w (fun e=>denOps P A n ops K (ops.toList.drop (tailAt2 ops.toList 0)) e w) (ops.toList.take (tailAt2 ops.toList 0)) e)
    (cond (Region.noSelect ops)
     (HeldR w fun S w=>denH P A n ops S K ops.size (Array.replicate ops.size false) e w)
     False))))
def isDef:Op→Bool
 | .defer _=>true
 | _=>false
structure Off (L:List Oper) (e e':Env):Prop where
 t:∀ i,(∀ o∈L,o.dst≠some i)→e'.t i=e.t i
 d:(∀ o∈L,isDef o.op=false)→e'.d=e.d
theorem Off.refl (L:List Oper) (e:Env):Off L e e:=⟨fun _ _=>rfl,fun _=>rfl⟩
theorem puts_ne {e:Env} {d:Option Tmp} {v:SV} {i:Nat} (h:d≠some i):(e.puts d v).t i=e.t i:=by
 cases d with
 | none=>rfl
 | some d =>
  have hb:Nat.beq i d=false:=Bool.eq_false_iff.2 fun hb=>h (by rw [Nat.eq_of_beq_eq_true hb])
  simp [Env.puts,hb]
theorem puts_d {e:Env} {d:Option Tmp} {v:SV}:(e.puts d v).d=e.d:=by cases d <;> rfl
theorem Off.puts {L:List Oper} {e e':Env} (h:Off L e e') {o:Oper} (ho:o∈L) (v:SV):Off L e (e'.puts o.dst v) :=
 ⟨fun i hi=>(puts_ne (hi o ho)).trans (h.t i hi),fun hd=>puts_d.trans (h.d hd)⟩
theorem Off.put {L:List Oper} {e e':Env} (h:Off L e e') {o:Oper} (ho:o∈L) (v:Value):Off L e (e'.put o.dst v):=h.puts ho (.val v)
theorem Off.trans {L L':List Oper} {e e' e'':Env} (h:Off L e e') (h':Off L' e' e'') (hs:∀ o∈L',o∈L):Off L e e'' :=
 ⟨fun i hi=>(h'.t i fun o ho=>hi o (hs o ho)).trans (h.t i hi),fun hd=>(h'.d fun o ho=>hd o (hs o ho)).trans (h.d hd)⟩
section sound3
variable {P:Program} {A:Ann} {n:Nat}
theorem env_ext {e e':Env} (h:∀ i,e.t i=e'.t i) (hd:e.d=e'.d):e=e':=by
 cases e;cases e';simp only at h hd;subst hd;congr;exact funext h
theorem put_same {e:Env} {d:Tmp} {v:Value} (h:e.t d=.val v):e.put (some d) v=e:=by
 refine env_ext (fun i=>?_) rfl
 by_cases hi:i=d
 ·subst hi;simp [Env.put,Env.puts,h]
 ·exact puts_ne (by simp;exact fun h=>hi h.symm)
theorem ev_sv (e:Env) (x:Operand):e.ev x=(e.sv x).v:=by cases x <;> rfl
theorem fetG_ex {e:Env} {b want:Bool} {x:Operand} {K:Value→Prop} (h:fetG e b want x K):∃ v,K v∧(b=want→v=e.ev x):=by
 unfold fetG at h
 split at h
 ·rename_i v hv;exact ⟨v,h,fun _=>by rw [ev_sv,hv];rfl⟩
 ·rename_i g w v hv
  cases hw:(w==want)
  ·rw [hw] at h;exact h.elim
  ·rw [hw] at h
   obtain ⟨rfl,h⟩:=h
   refine ⟨v,h,fun hb=>?_⟩
   rw [ev_sv,hv]
   have:w=want:=by simpa using hw
   subst this;subst hb
   cases g <;> rfl
theorem pureG_of {o:Oper} {e:Env} {C:World→Prop} {b want:Bool} {K:Value→Prop} (h:pureG P o e C b want K):∃ v,K v∧(b=want→QRun P (execOp e.ev o) C v):=by
 unfold pureG at h
 split at h
 ·rename_i x ho
  obtain ⟨v,h,hv⟩:=fetG_ex h
  exact ⟨v,h,fun hb w hw=>by rw [hv hb];simp [execOp,ho,Sem.run_pure]⟩
 ·rename_i x ho
  obtain ⟨v,h,hv⟩:=fetG_ex h
  exact ⟨v,h,fun hb w hw=>by rw [hv hb];simp [execOp,ho,Sem.run_pure]⟩
 ·rename_i op t x y z ho
  obtain ⟨u,h,hu⟩:=fetG_ex h
  obtain ⟨v,h,hv⟩:=fetG_ex h
  obtain ⟨r,hr,h⟩:=denBin_of h
  refine ⟨r,h,fun hb=>?_⟩
  rw [hu hb,hv hb] at hr
  simp only [execOp,ho]
  exact QRun.of hr
 ·rename_i t x ho
  obtain ⟨u,h,hu⟩:=fetG_ex h
  split at h
  ·rename_i r
   refine ⟨_,h,fun hb=>?_⟩
   simp only [execOp,ho,← hu hb]
   exact QRun.of fun w hw=>by simp [Op.unary,Sem.run_pure]
  ·exact h.elim
 ·rename_i src dst x ho
  obtain ⟨u,h,hu⟩:=fetG_ex h
  split at h
  ·rename_i k k' q n hs hd
   refine ⟨_,h,fun hb=>?_⟩
   simp only [execOp,ho,← hu hb]
   exact QRun.of fun w hw=>by simp [convert,Sem.run_bind,run_dr_underlying hs,run_dr_underlying hd,Conv.intToInt,Sem.run_pure]
  ·exact h.elim
 ·exact h.elim
theorem gd_of {ops:Array Oper} {o:Oper} {e:Env} {a:Act} {C:World→Prop} (hr:Rel n e a) {yes no:Env→Prop} {pur:SV→Prop} (h:gd P ops o e C yes no pur) :
  (Region.wanted o (yielded ops a.tmps)=true∧yes e)∨(Region.wanted o (yielded ops a.tmps)=false∧no e) ∨
  ∃ g want v,pur (.gd g want v)∧Region.wanted o (yielded ops a.tmps)=(g==want)∧(g=want→QRun P (execOp e.ev o) C v):=by
 unfold gd at h
 unfold Region.wanted
 cases hg:o.guard with
 | none=>simp only [hg] at h;exact .inl ⟨rfl,h⟩
 | some jw =>
  obtain ⟨j,want⟩:=jw
  simp only [hg] at h ⊢
  unfold yielded
  have hops:ops.toList[j]? = ops[j]? := by simp
  rw [hops] at h
  cases hd:(ops[j]?).bind (·.dst) with
  | none=>simp only [hd,Option.bind_none] at h ⊢;exact .inr (.inl ⟨rfl,h⟩)
  | some d =>
   simp only [hd,Option.bind_some] at h ⊢
   have ht:=hr.t d
   rw [Array.getD_eq_getD_getElem?] at ht
   split at h
   ·rename_i b hb
    rw [hb] at ht
    have hx:a.tmps[d]? = some (.bool b):=by
     cases hx:a.tmps[d]? with
     | none=>rw [hx] at ht;simp only [Option.getD_none] at ht;exact absurd ht (by simp [undef,SV.v])
     | some v=>rw [hx] at ht;simp only [Option.getD_some] at ht;rw [ht];rfl
    rw [hx]
    cases hf:flatPure P ops.toList j
    ·rw [hf] at h
     cases b
     ·have h:cond want (no (e.put (some d) (.bool false))) (yes (e.put (some d) (.bool false))):=h
      rw [put_same hb] at h
      cases want
      ·exact .inl ⟨rfl,h⟩
      ·exact .inr (.inl ⟨rfl,h⟩)
     ·have h:cond want (yes (e.put (some d) (.bool true))) (no (e.put (some d) (.bool true))):=h
      rw [put_same hb] at h
      cases want
      ·exact .inr (.inl ⟨rfl,h⟩)
      ·exact .inl ⟨rfl,h⟩
    ·rw [hf] at h
     obtain ⟨v,h,hv⟩:=pureG_of h
     exact .inr (.inr ⟨b,want,v,h,by cases b <;> cases want <;> rfl,hv⟩)
   ·rename_i v hb hv
    refine .inr (.inl ⟨?_,h⟩)
    rw [hv] at ht
    cases hx:a.tmps[d]? with
    | none=>rfl
    | some u =>
     rw [hx] at ht
     simp only [Option.getD_some,SV.v] at ht
     subst ht
     cases u <;> first | rfl | (exact (hb _ rfl).elim)
   ·exact h.elim
theorem denOps_of {ops:Array Oper} {K:Env→World→Prop} {Q:Exit→Act→World→Prop} {L:List Oper} {e0:Env} (hQ:∀ e a w,Rel n e a→Off L e0 e→K e w→Q .normal a w) :
  ∀ (l:List Oper) (e:Env) (a:Act) (w:World),(∀ o∈l,o∈L)→Off L e0 e→Rel n e a→denOps P A n ops K l e w→wpList P ops Q l a w
 | [],e,a,w,_,hof,hr,h=>hQ e a w hr hof h
 | o::rest,e,a,w,hs,hof,hr,h=>by
  have ho':=hs o (List.mem_cons_self ..)
  have hs':∀ o∈rest,o∈L:=fun x hx=>hs x (List.mem_cons_of_mem _ hx)
  unfold denOps at h
  cases hd:dstOk n o.dst
  ·rw [hd] at h;exact h.elim
  ·rw [hd] at h
   simp only [cond_true] at h
   refine wpList_step fun Kn hKn=>?_
   rcases gd_of hr h with ⟨hw,h⟩ | ⟨hw,h⟩ | ⟨g,want,v,h,hw,hv⟩
   ·rw [hw]
    simp only [if_true]
    split at h
    ·rename_i c ho
     split at h
     ·rename_i f hc
      split at h
      ·rename_i fn fi ca hf
       unfold Oper.wp
       have hrun:(execOp a.eval o).run P w=.ok (.defer { target:=.fn fn ca,args:=(fi.toList++c.args.toList.map e.ev).toArray }) w:=by
        simp only [execOp,ho,hr.evf,resolve,hc,hf,Deferred.ofValue,Sem.run_bind,Sem.run_pure,Result.andThen_ok]
        congr 3
        apply Array.ext'
        simp
       rw [hrun]
       refine hKn _ _ (denOps_of hQ rest _ _ w hs' ?_ ?_ h)
       ·exact Off.put (e':=⟨e.t,_::e.d⟩) ⟨hof.t,fun hd=>by have:=hd o ho';rw [ho] at this;cases this⟩ ho' undef
       ·exact Rel.put (e:=⟨e.t,_::e.d⟩) (a:={ a with defers:=_::a.defers }) ⟨hr.size,hr.t,by simp [hr.d]⟩ hd undef
      ·exact h.elim
     ·exact h.elim
    ·exact denL_of hr.evf h fun v w' h=>hKn _ _ (denOps_of hQ rest _ _ w' hs' (hof.put ho' v) (hr.put hd v) h)
   ·rw [hw]
    simp only [Bool.false_eq_true,if_false]
    exact hKn _ _ (denOps_of hQ rest _ _ w hs' (hof.put ho' undef) (hr.put hd undef) h)
   ·rw [hw]
    have hp:=hr.puts hd (.gd g want v)
    cases hgw:(g==want)
    ·simp only [Bool.false_eq_true,if_false]
     have hu:(SV.gd g want v).v=undef:=by simp only [SV.v,hgw,cond_false]
     rw [hu] at hp
     exact hKn _ _ (denOps_of hQ rest _ _ w hs' (hof.puts ho' _) hp h)
    ·simp only [if_true]
     have hu:(SV.gd g want v).v=v:=by simp only [SV.v,hgw,cond_true]
     rw [hu] at hp
     have hq:=hv (by simpa using hgw) w ⟨w.drawn,rfl⟩
     exact wp_value (by rw [hr.evf];exact hq) (hKn _ _ (denOps_of hQ rest _ _ w hs' (hof.puts ho' _) hp h))
theorem run_callG {o:Oper} {f:Operand} {args:Array Operand} {ts:Array TypeId} {e:Env} {g:FuncId} {fi ca:Array Value} (ho:o.op=.call { callee:=.value f,args:=args,argTypes:=ts })
  (hf:e.ev f=.func (.func g) fi ca) (w:World):(execOp e.ev o).run P w=(callFunc g (fi.toList++args.toList.map e.ev++ca.toList).toArray).run P w:=by
 simp only [execOp,ho,resolve,hf,Deferred.ofValue,Sem.run_bind,Sem.run_pure,Result.andThen_ok,invoke]
 congr 2
 apply Array.ext'
 simp
theorem denQC_quiet {o:Oper} {e:Env} {a:Act} {C:World→Prop} {K:Value→Prop} {next:Act→Prop} (hr:a.eval=e.ev) (h:denQC P A o e C K) (hn:∀ v,K v→next (a.put o.dst v)) :
  o.quiet P a C next:=by
 have plain:denQ P A o e C K→o.quiet P a C next:=fun h=>by
  obtain ⟨v,hv,h⟩:=denQ_of h
  refine ⟨v,fun w' hw'=>?_,hn v h⟩
  unfold Oper.quietAt
  rw [hr,hv w' hw']
  exact ⟨rfl,rfl⟩
 unfold denQC at h
 split at h
 ·rename_i f args ts ho
  split at h
  ·rename_i g fi ca hf
   cases hk:okCall P g
   ·rw [hk] at h;exact h.elim
   ·rw [hk] at h
    obtain ⟨v,hv,h⟩:=h
    refine ⟨v,fun w' hw'=>?_,hn v (opn_of h)⟩
    unfold Oper.quietAt
    rw [hr,run_callG ho hf,okCall_run hk]
    exact ⟨rfl,Calls.mono (hv w' hw') fun e w'' ⟨he,hd⟩=>⟨he,hd⟩⟩
  ·exact h.elim
 ·exact plain h
theorem denSC_still {o:Oper} {e:Env} {a:Act} {w:World} {K:Value→Prop} {next:Act→Prop} (hr:a.eval=e.ev) (h:denSC P A o e w K) (hn:∀ v,K v→next (a.put o.dst v)) :
  o.still P a w next:=by
 have plain:denQ P A o e (At w) K→o.still P a w next:=fun h=>by
  obtain ⟨v,hv,h⟩:=denQ_of h
  unfold Oper.still
  rw [hr,hv w ⟨w.drawn,rfl⟩]
  exact ⟨rfl,hn v h⟩
 unfold denSC at h
 split at h
 ·rename_i f args ts ho
  split at h
  ·rename_i g fi ca hf
   cases hk:okCall P g
   ·rw [hk] at h;exact h.elim
   ·rw [hk] at h
    obtain ⟨v,hv,h⟩:=h
    unfold Oper.still
    rw [hr,run_callG ho hf,okCall_run hk]
    exact ⟨rfl,v,hv,hn v (opn_of h)⟩
  ·exact h.elim
 ·exact plain h
theorem denQs_of {ops:Array Oper} {w:World} {K:Env→Prop} {K':Act→Prop} {L:List Oper} {e0:Env} (hK:∀ e a,Rel n e a→Off L e0 e→K e→K' a) :
  ∀ (l:List Oper) (e:Env) (a:Act),(∀ o∈l,o∈L)→Off L e0 e→Rel n e a→denQs P A n ops w K l e→wpQuiet P ops (At w) K' l a
 | [],e,a,_,hof,hr,h=>hK e a hr hof h
 | o::rest,e,a,hs,hof,hr,h=>by
  have ho':=hs o (List.mem_cons_self ..)
  have hs':∀ o∈rest,o∈L:=fun x hx=>hs x (List.mem_cons_of_mem _ hx)
  unfold denQs at h
  cases hd:dstOk n o.dst
  ·rw [hd] at h;exact h.elim
  ·rw [hd] at h
   simp only [cond_true] at h
   unfold wpQuiet
   rcases gd_of hr h with ⟨hw,h⟩ | ⟨hw,h⟩ | ⟨g,want,v,h,hw,hv⟩
   ·rw [hw];simp only [if_true]
    exact denQC_quiet hr.evf h fun v h=>denQs_of hK rest _ _ hs' (hof.put ho' v) (hr.put hd v) h
   ·rw [hw];simp only [Bool.false_eq_true,if_false]
    exact denQs_of hK rest _ _ hs' (hof.put ho' undef) (hr.put hd undef) h
   ·rw [hw]
    have hp:=hr.puts hd (.gd g want v)
    cases hgw:(g==want)
    ·simp only [Bool.false_eq_true,if_false]
     have hu:(SV.gd g want v).v=undef:=by simp only [SV.v,hgw,cond_false]
     rw [hu] at hp
     exact denQs_of hK rest _ _ hs' (hof.puts ho' _) hp h
    ·simp only [if_true]
     have hu:(SV.gd g want v).v=v:=by simp only [SV.v,hgw,cond_true]
     rw [hu] at hp
     refine ⟨v,fun w' hw'=>?_,denQs_of hK rest _ _ hs' (hof.puts ho' _) hp h⟩
     unfold Oper.quietAt
     rw [hr.evf,hv (by simpa using hgw) w' hw']
     exact ⟨rfl,rfl⟩
theorem denSs_of {ops:Array Oper} {w:World} {K:Env→Prop} {K':Act→Prop} {L:List Oper} {e0:Env} (hK:∀ e a,Rel n e a→Off L e0 e→K e→K' a) :
  ∀ (l:List Oper) (e:Env) (a:Act),(∀ o∈l,o∈L)→Off L e0 e→Rel n e a→denSs P A n ops w K l e→wpStill P ops w K' l a
 | [],e,a,_,hof,hr,h=>hK e a hr hof h
 | o::rest,e,a,hs,hof,hr,h=>by
  have ho':=hs o (List.mem_cons_self ..)
  have hs':∀ o∈rest,o∈L:=fun x hx=>hs x (List.mem_cons_of_mem _ hx)
  unfold denSs at h
  cases hd:dstOk n o.dst
  ·rw [hd] at h;exact h.elim
  ·rw [hd] at h
   simp only [cond_true] at h
   unfold wpStill
   rcases gd_of hr h with ⟨hw,h⟩ | ⟨hw,h⟩ | ⟨g,want,v,h,hw,hv⟩
   ·rw [hw];simp only [if_true]
    exact denSC_still hr.evf h fun v h=>denSs_of hK rest _ _ hs' (hof.put ho' v) (hr.put hd v) h
   ·rw [hw];simp only [Bool.false_eq_true,if_false]
    exact denSs_of hK rest _ _ hs' (hof.put ho' undef) (hr.put hd undef) h
   ·rw [hw]
    have hp:=hr.puts hd (.gd g want v)
    cases hgw:(g==want)
    ·simp only [Bool.false_eq_true,if_false]
     have hu:(SV.gd g want v).v=undef:=by simp only [SV.v,hgw,cond_false]
     rw [hu] at hp
     exact denSs_of hK rest _ _ hs' (hof.puts ho' _) hp h
    ·simp only [if_true]
     have hu:(SV.gd g want v).v=v:=by simp only [SV.v,hgw,cond_true]
     rw [hu] at hp
     unfold Oper.still
     have hq:=hv (by simpa using hgw) w ⟨w.drawn,rfl⟩
     rw [hr.evf,hq]
     exact ⟨rfl,denSs_of hK rest _ _ hs' (hof.puts ho' _) hp h⟩
theorem denTail_of {id:Nat} {ops:Array Oper} {K:Env→World→Prop} {Q:Exit→Act→World→Prop} {L:List Oper} {e0:Env} (hm:P.follows .mixedOrders=true)
  (hQ:∀ e a w,Rel n e a→Off L e0 e→K e w→Q .normal a w) (hs:∀ o∈ops.toList,o∈L) {e:Env} {a:Act} {w:World} (hof:Off L e0 e) (hr:Rel n e a) (t:Nat) (hT:Region.lexTailB .any ops t=true)
  (h:Dr1 w fun w=>denSs P A n ops w (fun e=>denOps P A n ops K (ops.toList.drop t) e w) (ops.toList.take t) e):(Code.region id ops true).wp P Q a w:=by
 have h':=h (w.drawn+1) (Nat.le_succ _)
 have key:wpStill P ops (w.dr (w.drawn+1)) (fun a'=>wpList P ops Q (ops.toList.drop t) a' (w.dr (w.drawn+1))) (ops.toList.take t) a :=
  denSs_of (fun e a hr hof h=>denOps_of hQ _ e a _ (fun o ho=>hs o (List.mem_of_mem_drop ho)) hof hr h) _ e a (fun o ho=>hs o (List.mem_of_mem_take ho)) hof hr h'
 have:=wp_region_still_tail (P:=P) (id:=id) (Q:=Q) (a:=a) (w:=w) (l:=ops.toList) t hm (by simpa using hT) (by rw [Array.toArray_toList];exact key)
 simpa using this
def NoPan (Q:Exit→Act→World→Prop):Exit→Act→World→Prop
 | .panic _,_,_=>False
 | x,a,w=>Q x a w
theorem allOf_mem:∀ {l:List Nat} {f:Nat→Prop},allOf l f→∀ i∈l,f i
 | [i],f,h,j,hj=>by simp at hj;subst hj;exact h
 | i::k::r,f,h,j,hj=>by
  rcases List.mem_cons.1 hj with rfl | hj
  ·exact h.1
  ·exact allOf_mem h.2 j hj
section G
variable {ops:Array Oper} {Q:Exit→Act→World→Prop} {md:Region.Mode} {S T:World→Prop}
def wpAnyG (P:Program) (md:Region.Mode) (ops:Array Oper) (Q:Exit→Act→World→Prop) (S:World→Prop):Nat→Array Bool→Act→World→Prop
 | 0,listed,a,w=>Region.ready md ops listed=[]∧Q .normal a w
 | fuel+1,listed,a,w =>
  (Region.ready md ops listed=[]→Q .normal a w) ∧
  ∀ i∈Region.ready md ops listed,wpOp P ops Q i (fun a' w'=>(quietB ops i=true→w'=w)∧(lastB ops i=true∨S w')∧wpAnyG P md ops Q S fuel (listed.setIfInBounds i true) a' w') a w
theorem wpAny_of_G:∀ (fuel:Nat) (listed:Array Bool) (a:Act) (w:World),wpAnyG P md ops Q S fuel listed a w→wpAny P md ops Q fuel listed a w
 | 0,_,_,_,h=>h
 | fuel+1,_,_,_,h=>⟨h.1,fun i hi=>wpOp_mono (fun a' w' h'=>wpAny_of_G fuel _ a' w' h'.2.2) (h.2 i hi)⟩
theorem wpAnyG_first {i:Nat} {oi:Oper} {v:Value} (hi:ops[i]? = some oi) (hsel:∀ (j:Nat) (o:Oper) cs b,ops[j]? = some o→o.op ≠ .select cs b)
  (hQ:∀ c a w,Q (.panic c) (a.put oi.dst v) w→Q (.panic c) a w) :
  ∀ (fuel:Nat) (listed:Array Bool) (a:Act) (w:World),
   (∀ j oj,ops[j]? = some oj→j≠i→listed.getD j true=false→(∀ e∈oj.after,Region.binds md e=true→e.on≠i)→oi.apart ops oj=true) →
   ((∀ w,S w→T w)∨∀ j oj,ops[j]? = some oj→j≠i→listed.getD j true=false→quietB ops j=false→∃ e∈oj.after,Region.binds md e=true∧e.on=i) →
   (∀ j oj,ops[j]? = some oj→j≠i→lastB ops j=true→∃ e∈oj.after,Region.binds md e=true∧e.on=i) →
   i∈Region.ready md ops listed→YieldsIf P ops T oi v a→S w→T w →
   wpAnyG P md ops Q S fuel (listed.setIfInBounds i true) (a.put oi.dst v) w→wpAnyG P md ops Q S (fuel+1) listed a w:=by
 intro fuel
 induction fuel with
 | zero =>
  intro listed a w _ _ _ hr hy hS hT H
  refine ⟨fun h=>(by rw [h] at hr;cases hr),fun j hj=>?_⟩
  by_cases hji:j=i
  ·subst hji;exact hy.wpOp hi hT ⟨fun _=>rfl,.inr hS,H⟩
  ·have:=ready_mono hj hji
   rw [H.1] at this
   cases this
 | succ fuel ih =>
  intro listed a w hfree hbd hlast hr hy hS hT H
  refine ⟨fun h=>(by rw [h] at hr;cases hr),fun j hj=>?_⟩
  by_cases hji:j=i
  ·subst hji;exact hy.wpOp hi hT ⟨fun _=>rfl,.inr hS,H⟩
  ·have h1:=H.2 j (ready_mono hj hji)
   obtain ⟨hjun,oj,hoj,hall⟩:=mem_ready.1 hj
   have hnot:∀ e∈oj.after,Region.binds md e=true→e.on≠i:=fun e he hb heq=>by
    have h1:=hall e he hb
    have h0:=(mem_ready.1 hr).1
    rw [heq] at h1
    rcases Nat.lt_or_ge i listed.size with h' | h'
    ·simp [h'] at h0 h1;rw [h0] at h1;cases h1
    ·simp [Array.getElem?_eq_none h'] at h1
   have h2:=wpOp_putIf hoj (hfree j oj hoj hji hjun hnot) (fun cs b=>hsel i oi cs b hi) (fun cs b=>hsel j oj cs b hoj) hQ hy h1
   have hun':∀ k,(listed.setIfInBounds j true).getD k true=false→listed.getD k true=false:=fun k hun=>by
    by_cases hjk:j=k
    ·subst hjk;exact hjun
    ·rw [getD_set_ne true hjk] at hun;exact hun
   have hfree':∀ k ok,ops[k]? = some ok→k≠i→(listed.setIfInBounds j true).getD k true=false →
     (∀ e∈ok.after,Region.binds md e=true→e.on≠i)→oi.apart ops ok=true:=fun k ok hk hki hun hno=>hfree k ok hk hki (hun' k hun) hno
   have hbd':(∀ w,S w→T w)∨∀ k ok,ops[k]? = some ok→k≠i→(listed.setIfInBounds j true).getD k true=false→quietB ops k=false→∃ e∈ok.after,Region.binds md e=true∧e.on=i :=
    hbd.imp id fun h k ok hk hki hun hq=>h k ok hk hki (hun' k hun) hq
   have hSw:∀ w',(lastB ops j=true∨S w')→S w':=fun w' h=>h.elim (fun hl=>by
    obtain ⟨e,he,hb,heq⟩:=hlast j oj hoj hji hl
    exact absurd heq (hnot e he hb)) id
   refine wpOp_mono (fun a' w' h3=>⟨h3.2.1,.inr (hSw _ h3.2.2.1),ih (listed.setIfInBounds j true) a' w' hfree' hbd' hlast (ready_mono hr (Ne.symm hji)) h3.1 (hSw _ h3.2.2.1) ?_ ?_⟩) h2
   ·rcases hbd with hst | hbd
    ·exact hst _ (hSw _ h3.2.2.1)
    ·cases hq:quietB ops j
     ·obtain ⟨e,he,hb,heq⟩:=hbd j oj hoj hji hjun hq
      exact absurd heq (hnot e he hb)
     ·rw [h3.2.1 hq];exact hT
   ·rw [Array.setIfInBounds_comm _ _ hji]
    exact h3.2.2.2
theorem unboundB_spec {i:Nat}:∀ (l:List Oper) (ls:List Bool) (k:Nat),unboundB i l ls k=false→∀ j oj,l[j]? = some oj→k+j≠i→ls[j]?≠some true→loudOp oj.op=true→∃ e∈oj.after,Region.binds .any e=true∧e.on=i
 | [],_,_,_,j,oj,h,_,_,_=>by simp at h
 | o::r,ls,k,hu,j,oj,h,hk,hl,hq=>by
  unfold unboundB at hu
  simp only [Bool.or_eq_false_iff] at hu
  obtain ⟨h1,h2⟩:=hu
  cases j with
  | zero =>
   simp only [List.getElem?_cons_zero,Option.some.injEq] at h
   subst h
   have hbk:Nat.beq k i=false:=Bool.eq_false_iff.2 fun hb=>hk (by simpa using Nat.eq_of_beq_eq_true hb)
   have hhd:ls.headD false=false:=by
    cases ls with
    | nil=>rfl
    | cons b ls=>cases b <;> simp_all
   simp only [hq,hbk,hhd,Bool.not_false,Bool.true_and,Bool.and_true,Bool.not_eq_eq_eq_not] at h1
   obtain ⟨e,he,hb⟩:=List.any_eq_true.1 h1
   unfold bindB at hb
   simp only [Bool.and_eq_true] at hb
   exact ⟨e,by simpa using he,hb.1,Nat.eq_of_beq_eq_true hb.2⟩
  | succ j =>
   refine unboundB_spec r ls.tail (k+1) h2 j oj (by simpa using h) (by omega) ?_ hq
   intro hh
   apply hl
   cases ls with
   | nil=>simp at hh
   | cons b ls=>simpa using hh
theorem boundB_spec {listed:Array Bool} {i:Nat} (h:boundB ops listed i=true):∀ j oj,ops[j]? = some oj→j≠i→listed.getD j true=false→quietB ops j=false→∃ e∈oj.after,Region.binds .any e=true∧e.on=i:=by
 intro j oj hj hji hun hq
 have h':unboundB i ops.toList listed.toList 0=false:=by simpa [boundB] using h
 refine unboundB_spec _ _ 0 h' j oj (by simpa using hj) (by omega) ?_ ?_
 ·intro hh
  have:listed[j]? = some true:=by simpa using hh
  simp [Array.getD_eq_getD_getElem?,this] at hun
 ·unfold quietB at hq
  rw [show ops.toList[j]? = some oj by simpa using hj] at hq
  simpa using hq
theorem waitsAll_spec {o:Oper} {j:Nat}:∀ {n:Nat},waitsAll o j n=true→∀ i,i<n→i≠j→∃ e∈o.after,Region.binds .any e=true∧e.on=i
 | 0,_,i,h,_=>absurd h (Nat.not_lt_zero _)
 | n+1,hw,i,h,hij=>by
  unfold waitsAll at hw
  simp only [Bool.and_eq_true,Bool.or_eq_true] at hw
  obtain ⟨h1,h2⟩:=hw
  rcases Nat.lt_succ_iff_lt_or_eq.1 h with h | h
  ·exact waitsAll_spec h2 i h hij
  ·subst h
   rcases h1 with h1 | h1
   ·exact absurd (Nat.eq_of_beq_eq_true h1) hij
   ·obtain ⟨e,he,hb⟩:=List.any_eq_true.1 h1
    unfold bindB at hb
    simp only [Bool.and_eq_true] at hb
    exact ⟨e,by simpa using he,hb.1,Nat.eq_of_beq_eq_true hb.2⟩
theorem lastB_spec {i:Nat} {oi:Oper} (hi:ops[i]? = some oi):∀ j oj,ops[j]? = some oj→j≠i→lastB ops j=true→∃ e∈oj.after,Region.binds .any e=true∧e.on=i:=by
 intro j oj hj hji hl
 unfold lastB at hl
 rw [show ops.toList[j]? = some oj by simpa using hj] at hl
 exact waitsAll_spec hl i (Array.getElem?_eq_some_iff.1 hi).1 (Ne.symm hji)
theorem wpAnyG_take {i:Nat} {oi:Oper} {v:Value} {fuel:Nat} {listed:Array Bool} {a:Act} {w:World} (hi:ops[i]? = some oi)
  (hs:Region.noSelect ops=true) (hf:Region.free .any ops listed i=true) (hr:(Region.ready .any ops listed).contains i=true)
  (hQ:∀ c a w,Q (.panic c) (a.put oi.dst v) w→Q (.panic c) a w) (hy:YieldsIf P ops (cond (boundB ops listed i) (At w) S) oi v a) (hS:S w)
  (h:wpAnyG P .any ops Q S fuel (listed.setIfInBounds i true) (a.put oi.dst v) w):wpAnyG P .any ops Q S (fuel+1) listed a w:=by
 cases hb:boundB ops listed i
 ·rw [hb] at hy
  exact wpAnyG_first hi (Region.noSelect_spec hs) hQ fuel listed a w (Region.free_spec hi hf) (.inl fun _ h=>h) (lastB_spec hi) (by simpa using hr) hy hS hS h
 ·rw [hb] at hy
  exact wpAnyG_first hi (Region.noSelect_spec hs) hQ fuel listed a w (Region.free_spec hi hf) (.inr (boundB_spec hb)) (lastB_spec hi) (by simpa using hr) hy hS ⟨w.drawn,rfl⟩ h
theorem wpAnyG_all {rs:List Nat} {fuel:Nat} {listed:Array Bool} {a:Act} {w:World} (hr:Region.ready md ops listed=rs) (hne:rs≠[])
  (h:∀ i∈rs,wpOp P ops Q i (fun a' w'=>(quietB ops i=true→w'=w)∧(lastB ops i=true∨S w')∧wpAnyG P md ops Q S fuel (listed.setIfInBounds i true) a' w') a w):wpAnyG P md ops Q S (fuel+1) listed a w :=
 ⟨fun h0=>absurd (hr ▸ h0) hne,hr ▸ h⟩
theorem wpAnyG_done {listed:Array Bool} {a:Act} {w:World} (hr:Region.ready md ops listed=[]) (h:Q .normal a w) :
  ∀ fuel,wpAnyG P md ops Q S fuel listed a w
 | 0=>⟨hr,h⟩
 | _+1=>⟨fun _=>h,by rw [hr];simp⟩
theorem wp_region_G {id:Nat} {a:Act} {w:World} (hm:P.follows .mixedOrders=true)
  (h:wpAnyG P .any ops Q S ops.size (Array.replicate ops.size false) a { w with drawn:=w.drawn+1 }):(Code.region id ops true).wp P Q a w :=
 wp_region_any hm (wpAny_of_G _ _ _ _ h)
end G
theorem denH_of {ops:Array Oper} {S:World→Prop} {K:Env→World→Prop} {Q:Exit→Act→World→Prop} {L:List Oper} {e0:Env} (hsel:Region.noSelect ops=true)
  (hQ:∀ e a w,Rel n e a→Off L e0 e→K e w→Q .normal a w) (hs:∀ o∈ops.toList,o∈L) :
  ∀ (f:Nat) (listed:Array Bool) (e:Env) (a:Act) (w:World),Off L e0 e→Rel n e a→S w→denH P A n ops S K f listed e w→wpAnyG P .any ops (NoPan Q) S f listed a w:=by
 intro f
 induction f with
 | zero =>
  intro listed e a w hof hr hS h
  unfold denH at h
  split at h
  ·rename_i h0;exact ⟨h0,hQ e a w hr hof h⟩
  ·exact h.elim
 | succ f ih =>
  intro listed e a w hof hr hS h
  unfold denH at h
  split at h
  ·rename_i h0;exact wpAnyG_done (Q:=NoPan Q) h0 (hQ e a w hr hof h) _
  ·rename_i i rs h0
   split at h
   ·rename_i j hj
    have hjm:=List.mem_of_find?_eq_some hj
    have hjt:=List.find?_some hj
    split at h
    ·rename_i o ho
     have ho':ops[j]? = some o:=by simpa using ho
     have hoL:=hs o (List.mem_of_getElem? ho)
     cases hd:dstOk n o.dst
     ·rw [hd] at h;exact h.elim
     ·rw [hd] at h
      simp only [cond_true] at h
      have hfree:Region.free .any ops listed j=true:=by
       unfold takeB at hjt
       rw [ho] at hjt
       simp only [Bool.and_eq_true] at hjt
       exact hjt.2
      have take:=fun v f listed a w => @wpAnyG_take P ops (NoPan Q) S j o v f listed a w
      rcases gd_of hr h with ⟨hw,h⟩ | ⟨hw,h⟩ | ⟨g,want,v,h,hw,hv⟩
      ·obtain ⟨v,hv,h⟩:=denQ_of h
       exact take v f listed a w ho' hsel hfree (by rw [h0];simpa using hjm) (fun c a w hp=>hp.elim) (.inl ⟨hw,fun w' hw'=>by rw [hr.evf];exact hv w' hw'⟩) hS
        (ih _ _ _ w (hof.put hoL v) (hr.put hd v) hS h)
      ·exact take undef f listed a w ho' hsel hfree (by rw [h0];simpa using hjm) (fun c a w hp=>hp.elim) (.inr ⟨hw,rfl⟩) hS
        (ih _ _ _ w (hof.put hoL undef) (hr.put hd undef) hS h)
      ·have hp:=hr.puts hd (.gd g want v)
       cases hgw:(g==want)
       ·have hu:(SV.gd g want v).v=undef:=by simp only [SV.v,hgw,cond_false]
        rw [hu] at hp
        exact take undef f listed a w ho' hsel hfree (by rw [h0];simpa using hjm) (fun c a w hp=>hp.elim) (.inr ⟨by rw [hw,hgw],rfl⟩) hS
         (ih _ _ _ w (hof.puts hoL _) hp hS h)
       ·have hu:(SV.gd g want v).v=v:=by simp only [SV.v,hgw,cond_true]
        rw [hu] at hp
        exact take v f listed a w ho' hsel hfree (by rw [h0];simpa using hjm) (fun c a w hp=>hp.elim)
         (.inl ⟨by rw [hw,hgw],fun w' hw'=>by rw [hr.evf];exact hv (by simpa using hgw) w' hw'⟩) hS (ih _ _ _ w (hof.puts hoL _) hp hS h)
    ·exact h.elim
   ·refine wpAnyG_all h0 (by simp) fun j hj=>?_
    have h:=allOf_mem h j hj
    split at h
    ·rename_i o ho
     have ho':ops[j]? = some o:=by simpa using ho
     have hoL:=hs o (List.mem_of_getElem? ho)
     cases hd:(dstOk n o.dst && !isDef' o.op)
     ·rw [hd] at h;exact h.elim
     ·rw [hd] at h
      simp only [cond_true] at h
      simp only [Bool.and_eq_true] at hd
      have hqB:quietB ops j = !loudOp o.op:=by unfold quietB;rw [ho]
      unfold wpOp
      simp only [ho']
      rcases gd_of hr h with ⟨hw,h⟩ | ⟨hw,h⟩ | ⟨g,want,v,h,hw,hv⟩
      ·rw [hw];simp only [if_true]
       cases hlo:loudOp o.op
       ·rw [hlo] at h
        simp only [cond_false] at h
        obtain ⟨v,hv,h⟩:=denQ_of h
        exact .inl (wp_value (by rw [hr.evf];exact hv w ⟨w.drawn,rfl⟩) ⟨fun _=>rfl,.inr h.1,ih _ _ _ w (hof.put hoL v) (hr.put hd.1 v) hS h.2⟩)
       ·rw [hlo] at h
        simp only [cond_true] at h
        refine .inl (denL_of hr.evf h fun v w' h=>⟨fun hq=>by rw [hqB,hlo] at hq;simp at hq,?_⟩)
        cases hlb:(A.nilable 300000 && lastB ops j)
        ·rw [hlb] at h
         simp only [cond_false] at h
         exact ⟨.inr h.1,ih _ _ _ w' (hof.put hoL v) (hr.put hd.1 v) h.1 h.2⟩
        ·rw [hlb] at h
         simp only [cond_true] at h
         simp only [Bool.and_eq_true] at hlb
         refine ⟨.inl hlb.2,?_⟩
         split at h
         ·rename_i h0'
          exact wpAnyG_done (Q:=NoPan Q) h0' (hQ _ _ _ (hr.put hd.1 v) (hof.put hoL v) h) _
         ·exact h.elim
      ·rw [hw];simp only [Bool.false_eq_true,if_false]
       exact ⟨fun _=>by trivial,.inr h.1,ih _ _ _ w (hof.put hoL undef) (hr.put hd.1 undef) hS h.2⟩
      ·rw [hw]
       have hp:=hr.puts hd.1 (.gd g want v)
       cases hgw:(g==want)
       ·simp only [Bool.false_eq_true,if_false]
        have hu:(SV.gd g want v).v=undef:=by simp only [SV.v,hgw,cond_false]
        rw [hu] at hp
        exact ⟨fun _=>by trivial,.inr h.1,ih _ _ _ w (hof.puts hoL _) hp hS h.2⟩
       ·simp only [if_true]
        have hu:(SV.gd g want v).v=v:=by simp only [SV.v,hgw,cond_true]
        rw [hu] at hp
        exact .inl (wp_value (by rw [hr.evf];exact hv (by simpa using hgw) w ⟨w.drawn,rfl⟩) ⟨fun _=>rfl,.inr h.1,ih _ _ _ w (hof.puts hoL _) hp hS h.2⟩)
    ·exact h.elim
theorem denDraw_of {id:Nat} {ops:Array Oper} {K:Env→World→Prop} {Q:Exit→Act→World→Prop} {L:List Oper} {e0:Env} (hm:P.follows .mixedOrders=true)
  (hQ:∀ e a w,Rel n e a→Off L e0 e→K e w→Q .normal a w) (hs:∀ o∈ops.toList,o∈L) {e:Env} {a:Act} {w:World} (hof:Off L e0 e) (hr:Rel n e a) (h:denDraw P A n ops K e w) :
  (Code.region id ops true).wp P Q a w:=by
 unfold denDraw at h
 cases hM:ops.toList.any (marked A)
 case true =>
  rw [hM] at h
  simp only [cond_true] at h
  cases hsel:Region.noSelect ops
  ·rw [hsel] at h;exact h.elim
  ·rw [hsel] at h
   simp only [cond_true] at h
   have h:∃ S:World→Prop,S (w.dr (w.drawn+1))∧denH P A n ops S K ops.size (Array.replicate ops.size false) e (w.dr (w.drawn+1)):=by
    cases hC:ops.toList.any (counted A)
    ·rw [hC] at h;exact h (w.drawn+1)
    ·rw [hC] at h;exact h (w.drawn+1) (by omega)
   obtain ⟨S,hS,h⟩:=h
   refine wp_mono (wp_region_G (S:=S) (Q:=NoPan Q) hm (denH_of hsel hQ hs _ _ e a _ hof hr hS h)) fun x a w hx=>?_
   cases x <;> first | exact hx | exact hx.elim
 rw [hM] at h
 simp only [cond_false] at h
 cases hB:(ops.toList.all (fun o=>quietable o.op) && Region.lexB .any ops)
 ·rw [hB] at h
  simp only [cond_false] at h
  cases hT:Region.lexTailB .any ops (tailAt ops.toList 0)
  ·rw [hT] at h
   simp only [cond_false] at h
   cases hT2:Region.lexTailB .any ops (tailAt2 ops.toList 0)
   ·rw [hT2] at h
    simp only [cond_false] at h
    cases hsel:Region.noSelect ops
    ·rw [hsel] at h;exact h.elim
    ·rw [hsel] at h
     obtain ⟨S,hS,h⟩:=h (w.drawn+1)
     refine wp_mono (wp_region_G (S:=S) (Q:=NoPan Q) hm (denH_of hsel hQ hs _ _ e a _ hof hr hS h)) fun x a w hx=>?_
     cases x <;> first | exact hx | exact hx.elim
   ·rw [hT2] at h
    exact denTail_of hm hQ hs hof hr _ hT2 h
  ·rw [hT] at h
   exact denTail_of hm hQ hs hof hr _ hT h
 ·rw [hB] at h
  simp only [cond_true] at h
  have hB:Region.lexB .any ops=true:=by simp only [Bool.and_eq_true] at hB;exact hB.2
  refine wp_region_quiet (C:=At w) hm hB ⟨w.drawn+1,rfl⟩ ?_
  exact denQs_of (fun e a hr hof h w' ⟨d,hw'⟩=>by subst hw';exact hQ e a _ hr hof (h d)) _ e a hs hof hr h
end sound3
def opsMask:List Oper→Nat
 | []=>0
 | o::r=>match o.dst with
  | some d=>Nat.lor (Nat.shiftLeft 1 d) (opsMask r)
  | none=>opsMask r
def asgMask:Code→Nat
 | .region _ ops _=>opsMask ops.toList
 | .seq a b=>Nat.lor (asgMask a) (asgMask b)
 | .cond _ a b=>Nat.lor (asgMask a) (asgMask b)
 | .block _ c=>asgMask c
 | .loop c=>asgMask c
 | .scope c=>asgMask c
 | _=>0
def firstRegion:Code→Option Nat
 | .region id _ _=>some id
 | .seq a b=>match firstRegion a with
  | some i=>some i
  | none=>firstRegion b
 | .cond _ a b=>match firstRegion a with
  | some i=>some i
  | none=>firstRegion b
 | .block _ c=>firstRegion c
 | .loop c=>firstRegion c
 | .scope c=>firstRegion c
 | _=>none
def condKey (x y:Code):Option Nat:=match firstRegion x with
 | some i=>some i
 | none=>(firstRegion y).map (50000+·)
def ndOps:List Oper→Bool
 | []=>true
 | o::r => !isDef o.op && ndOps r
def noDef:Code→Bool
 | .region _ ops _=>ndOps ops.toList
 | .seq a b=>noDef a && noDef b
 | .cond _ a b=>noDef a && noDef b
 | .block _ c=>noDef c
 | .loop c=>noDef c
 | .scope c=>noDef c
 | _=>true
def Vt:Kd→Type
 | .int _=>Int
 | .bool=>Bool
 | .str=>ByteArray
 | .ptr=>Nat×Nat
 | .slice=>Option Addr×Nat×Nat
 | .map=>Option Nat
 | .agg _=>Array Value
 | _=>Value
def mkV:(k:Kd)→Vt k→Value
 | .int k,n=>.int k n
 | .bool,b=>.bool b
 | .str,s=>.string s
 | .ptr,p=>.pointer (some ⟨p.1,p.2,none⟩)
 | .slice,s=>.slice s.1 s.2.1 s.2.2
 | .map,m=>.map m
 | .agg _,cs=>.agg cs
 | .tup _,v=>v
 | .any,v=>v
 | .bad,v=>v
def inV:(k:Kd)→Vt k→(Value→Prop)→Prop
 | .bool,b,K=>K (.bool b)
 | .int k,n,K=>K (.int k n)
 | .str,s,K=>K (.string s)
 | .ptr,p,K=>K (.pointer (some ⟨p.1,p.2,none⟩))
 | .slice,s,K=>K (.slice s.1 s.2.1 s.2.2)
 | .map,m,K=>K (.map m)
 | .agg _,cs,K=>K (.agg cs)
 | .tup _,v,K=>K v
 | .any,v,K=>K v
 | .bad,v,K=>K v
def outV:(k:Kd)→Value→(Vt k→Prop)→Prop
 | .int k,.int k' n,K=>cond (decide (k=k')) (K n) False
 | .bool,.bool b,K=>K b
 | .str,.string s,K=>K s
 | .ptr,.pointer (some ⟨b,o,none⟩),K=>K (b,o)
 | .slice,.slice p l c,K=>K (p,l,c)
 | .map,.map m,K=>K m
 | .agg _,.agg cs,K=>K cs
 | .any,v,K=>K v
 | _,_,_=>False
def St:List (Tmp×Kd)→Type
 | []=>Unit
 | x::r=>Vt x.2×St r
def setSt:(l:List (Tmp×Kd))→St l→Env→(Env→Prop)→Prop
 | [],_,e,K=>K e
 | x::r,s,e,K=>inV x.2 s.1 fun v=>setSt r s.2 (e.put (some x.1) v) K
def getSt:(l:List (Tmp×Kd))→Env→(St l→Prop)→Prop
 | [],_,K=>K ()
 | x::r,e,K=>match e.t x.1 with
  | .val v=>outV x.2 v fun v=>getSt r e fun s=>K (v,s)
  | .gd _ _ _=>False
def forget (m:Nat) (j:Nat→SV) (e:Env):Env:=⟨fun i=>cond (Nat.testBit m i) (j i) (e.t i),e.d⟩
def maskOk (n m:Nat):Bool:=Nat.blt m (Nat.shiftLeft 1 n)
def stOk (n:Nat):List (Tmp×Kd)→Bool
 | []=>true
 | x::r=>Nat.blt x.1 n && stOk n r
def denReg (P:Program) (A:Ann) (n:Nat) (ops:Array Oper) (draw:Bool) (K:Env→World→Prop) (e:Env) (w:World):Prop:=match draw with
 | true=>denDraw P A n ops K e w
 | false=>denOps P A n ops K ops.toList e w
def den (P:Program) (A:Ann) (n:Nat):Code→(Exit→Env→World→Prop)→Env→World→Prop
 | .skip,Q,e,w=>Q .normal e w
 | .ret,Q,e,w=>Q .ret e w
 | .exit i,Q,e,w=>Q (.exit i) e w
 | .region i ops draw,Q,e,w=>match A.regs i with
  | none=>denReg P A n ops draw (fun e w=>Q .normal e w) e w
  | some l=>cond (noDef (.region i ops draw) && maskOk n (asgMask (.region i ops draw)) && stOk n l) (JoinC (σ:=St l)
    (fun J=>denReg P A n ops draw (fun e' w=>getSt l e' fun s=>J s w) e w)
    (fun j s w=>setSt l s (forget (asgMask (.region i ops draw)) j e) fun e=>Q .normal e w)) False
 | .seq x y,Q,e,w=>den P A n x (fun
   | .normal,e,w=>den P A n y Q e w
   | q,e,w=>Q q e w) e w
 | .cond c x y,Q,e,w=>match e.ev c with
  | .bool b=>match (condKey x y).bind A.conds with
   | none=>Cb b (den P A n x Q e w) (den P A n y Q e w)
   | some l=>cond (noDef (.cond c x y) && maskOk n (asgMask (.cond c x y)) && stOk n l) (JoinC (σ:=St l)
    (fun J=>Cb b
     (den P A n x (fun
      | .normal,e',w=>getSt l e' fun s=>J s w
      | q,e',w=>Q q e' w) e w)
     (den P A n y (fun
      | .normal,e',w=>getSt l e' fun s=>J s w
      | q,e',w=>Q q e' w) e w))
    (fun j s w=>setSt l s (forget (asgMask (.cond c x y)) j e) fun e=>Q .normal e w)) False
  | _=>False
 | .block i c,Q,e,w=>match A.joins i with
  | none=>den P A n c (fun
    | .exit i',e,w=>cond (Nat.beq i' i) (Q .normal e w) (Q (.exit i') e w)
    | q,e,w=>Q q e w) e w
  | some l=>cond (noDef c && maskOk n (asgMask c) && stOk n l) (JoinC (σ:=St l)
    (fun J=>den P A n c (fun
     | .exit i',e',w=>cond (Nat.beq i' i) (getSt l e' fun s=>J s w) (Q (.exit i') e' w)
     | .normal,e',w=>getSt l e' fun s=>J s w
     | q,e',w=>Q q e' w) e w)
    (fun j s w=>setSt l s (forget (asgMask c) j e) fun e=>Q .normal e w)) False
 | .loop c,Q,e,w=>match firstRegion c with
  | none=>False
  | some r=>cond (noDef c && maskOk n (asgMask c) && stOk n (A.loops r)) (getSt (A.loops r) e fun s=>LoopC (σ:=St (A.loops r))
    (fun j s w K=>setSt (A.loops r) s (forget (asgMask c) j e) fun e=>den P A n c (fun
     | .normal,e',w=>getSt (A.loops r) e' fun s=>K s w
     | q,e',w=>Q q e' w) e w)
    s w) False
 | _,_,_,_=>False
def codeOps:Code→List Oper
 | .region _ ops _=>ops.toList
 | .seq a b=>codeOps a++codeOps b
 | .cond _ a b=>codeOps a++codeOps b
 | .block _ c=>codeOps c
 | .loop c=>codeOps c
 | .scope c=>codeOps c
 | _=>[]
theorem testBit_lor {a b i:Nat} (h:Nat.testBit (Nat.lor a b) i=false):Nat.testBit a i=false∧Nat.testBit b i=false:=by
 have:Nat.testBit (a ||| b) i=false:=h
 rw [Nat.testBit_or] at this
 simpa using this
theorem testBit_one (d i:Nat):Nat.testBit (Nat.shiftLeft 1 d) i=decide (d=i):=by
 show Nat.testBit (1 <<< d) i=_
 rw [Nat.one_shiftLeft,Nat.testBit_two_pow]
theorem opsMask_spec:∀ (l:List Oper) (i:Nat),Nat.testBit (opsMask l) i=false→∀ o∈l,o.dst≠some i
 | [],_,_,_,ho=>by cases ho
 | o::r,i,h,o',ho=>by
  unfold opsMask at h
  split at h
  ·rename_i d hd
   obtain ⟨h1,h2⟩:=testBit_lor h
   rw [testBit_one] at h1
   rcases List.mem_cons.1 ho with rfl | ho
   ·rw [hd];intro he;cases he;simp at h1
   ·exact opsMask_spec r i h2 o' ho
  ·rename_i hd
   rcases List.mem_cons.1 ho with rfl | ho
   ·rw [hd];simp
   ·exact opsMask_spec r i h o' ho
theorem asgMask_spec:∀ (c:Code) (i:Nat),Nat.testBit (asgMask c) i=false→∀ o∈codeOps c,o.dst≠some i:=by
 intro c
 induction c with
 | region id ops d=>exact fun i h=>opsMask_spec _ i h
 | seq a b iha ihb =>
  intro i h o ho
  obtain ⟨h1,h2⟩:=testBit_lor h
  rcases List.mem_append.1 ho with ho | ho
  ·exact iha i h1 o ho
  ·exact ihb i h2 o ho
 | cond x a b iha ihb =>
  intro i h o ho
  obtain ⟨h1,h2⟩:=testBit_lor h
  rcases List.mem_append.1 ho with ho | ho
  ·exact iha i h1 o ho
  ·exact ihb i h2 o ho
 | block id c ih=>exact ih
 | loop c ih=>exact ih
 | scope c ih=>exact ih
 | _=>intro i _ o ho;cases ho
theorem ndOps_spec:∀ (l:List Oper),ndOps l=true→∀ o∈l,isDef o.op=false
 | [],_,_,ho=>by cases ho
 | o::r,h,o',ho=>by
  simp only [ndOps,Bool.and_eq_true,Bool.not_eq_true'] at h
  rcases List.mem_cons.1 ho with rfl | ho
  ·exact h.1
  ·exact ndOps_spec r h.2 o' ho
theorem noDef_spec:∀ (c:Code),noDef c=true→∀ o∈codeOps c,isDef o.op=false:=by
 intro c
 induction c with
 | region id ops d=>exact fun h=>ndOps_spec _ h
 | seq a b iha ihb =>
  intro h o ho
  simp only [noDef,Bool.and_eq_true] at h
  rcases List.mem_append.1 ho with ho | ho
  ·exact iha h.1 o ho
  ·exact ihb h.2 o ho
 | cond x a b iha ihb =>
  intro h o ho
  simp only [noDef,Bool.and_eq_true] at h
  rcases List.mem_append.1 ho with ho | ho
  ·exact iha h.1 o ho
  ·exact ihb h.2 o ho
 | block id c ih=>exact ih
 | loop c ih=>exact ih
 | scope c ih=>exact ih
 | _=>intro _ o ho;cases ho
section sound4
variable {P:Program} {A:Ann} {n:Nat}
theorem inV_of {k:Kd} {x:Vt k} {K:Value→Prop} (h:inV k x K):K (mkV k x):=by
 cases k <;> exact h
theorem outV_of {k:Kd} {v:Value} {K:Vt k→Prop} (h:outV k v K):∃ x,v=mkV k x∧K x:=by
 cases k with
 | int k =>
  cases v <;> first | exact h.elim | skip
  rename_i k' m
  unfold outV at h
  by_cases hk:k=k'
  ·subst hk;simp only [decide_true,cond_true] at h;exact ⟨m,rfl,h⟩
  ·simp [hk] at h
 | ptr =>
  cases v <;> first | exact h.elim | skip
  rename_i a
  cases a with
  | none=>exact h.elim
  | some a =>
   obtain ⟨b,o,sp⟩:=a
   cases sp with
   | none=>exact ⟨(b,o),rfl,h⟩
   | some _=>exact h.elim
 | slice=>cases v <;> first | exact h.elim | exact ⟨_,rfl,h⟩
 | bool=>cases v <;> first | exact h.elim | exact ⟨_,rfl,h⟩
 | str=>cases v <;> first | exact h.elim | exact ⟨_,rfl,h⟩
 | map=>cases v <;> first | exact h.elim | exact ⟨_,rfl,h⟩
 | agg m=>cases v <;> first | exact h.elim | exact ⟨_,rfl,h⟩
 | any=>exact ⟨v,rfl,h⟩
 | tup l=>exact h.elim
 | bad=>exact h.elim
def Holds:(l:List (Tmp×Kd))→St l→Env→Prop
 | [],_,_=>True
 | x::r,s,e=>e.t x.1=.val (mkV x.2 s.1)∧Holds r s.2 e
theorem getSt_of:∀ {l:List (Tmp×Kd)} {e:Env} {K:St l→Prop},getSt l e K→∃ s,Holds l s e∧K s
 | [],_,_,h=>⟨(),trivial,h⟩
 | _::_,_,_,h=>by
  unfold getSt at h
  split at h
  ·rename_i u hu
   obtain ⟨v,hv,h⟩:=outV_of h
   obtain ⟨s,hs,h⟩:=getSt_of h
   exact ⟨(v,s),⟨by rw [hu,hv],hs⟩,h⟩
  ·exact h.elim
theorem setSt_of:∀ {l:List (Tmp×Kd)} {s:St l} {e:Env} {K:Env→Prop},Holds l s e→setSt l s e K→K e
 | [],_,_,_,_,h=>h
 | x::_,s,e,_,hh,h=>by
  have h:=inV_of h
  rw [put_same hh.1] at h
  exact setSt_of hh.2 h
theorem forget_same {c:Code} {e e':Env} (hof:Off (codeOps c) e e') (hnd:noDef c=true):forget (asgMask c) e'.t e=e':=by
 refine env_ext (fun i=>?_) ?_
 ·show cond (Nat.testBit (asgMask c) i) (e'.t i) (e.t i)=e'.t i
  cases hb:Nat.testBit (asgMask c) i
  ·exact (hof.t i (asgMask_spec c i hb)).symm
  ·rfl
 ·exact (hof.d (noDef_spec c hnd)).symm
theorem wp_loop_rel {c:Code} {Q:Exit→Act→World→Prop} {a:Act} {w:World} (I:Nat→Act→World→Prop) (h₀:∃ m,I m a w)
  (round:∀ m a w,I m a w→c.wp P (Exit.then (fun a' w'=>∃ m',m'<m∧I m' a' w') Q) a w):(Code.loop c).wp P Q a w:=by
 intro b k cs
 have key:∀ m a w,I m a w→∃ e a' w',Q e a' w'∧Arrives P (lone (b.at a (.code c :: .inLoop c::k)) cs w) b k cs e a' w':=by
  intro m
  induction m using Nat.strongRecOn with
  | _ m ih =>
   intro a w hI
   obtain ⟨e,a₁,w₁,hq,harr⟩:=round m a w hI b (.inLoop c::k) cs
   cases e with
   | normal =>
    obtain ⟨m',hlt,hI₁⟩:=hq
    obtain ⟨e₂,a₂,w₂,hq₂,harr₂⟩:=ih m' hlt a₁ w₁ hI₁
    exact ⟨e₂,a₂,w₂,hq₂,.of_steps (Steps.trans harr (.one step_inLoop)) harr₂⟩
   | exit id=>exact ⟨_,a₁,w₁,hq,.pass (x:=.inLoop c) rfl (fun _ _=>.inl (by simp)) harr⟩
   | goto l=>exact ⟨_,a₁,w₁,hq,.pass (x:=.inLoop c) rfl (fun _ _=>.inl (by simp)) harr⟩
   | ret=>exact ⟨_,a₁,w₁,hq,.pass (x:=.inLoop c) rfl (fun _ _=>.inl (by simp)) harr⟩
   | panic ch=>exact ⟨_,a₁,w₁,hq,.pass (x:=.inLoop c) rfl (fun _ _=>.inl (by simp)) harr⟩
   | outgrown=>exact ⟨_,a₁,w₁,hq,.pass (x:=.inLoop c) rfl (fun _ _=>.inl (by simp)) harr⟩
 obtain ⟨m,h₀⟩:=h₀
 obtain ⟨e,a',w',hq,harr⟩:=key m a w h₀
 exact ⟨e,a',w',hq,.of_steps (.one step_loop) harr⟩
theorem den_of (hm:P.follows .mixedOrders=true):∀ (c:Code) (Q:Exit→Env→World→Prop) (e:Env) (a:Act) (w:World) (L:List Oper) (e0:Env),(∀ o∈codeOps c,o∈L)→Off L e0 e →
  Rel n e a→den P A n c Q e w→c.wp P (fun x a' w'=>∃ e',Rel n e' a'∧Off L e0 e'∧Q x e' w') a w:=by
 intro c
 induction c with
 | skip=>exact fun Q e a w L e0 hs hof hr h=>wp_skip ⟨e,hr,hof,h⟩
 | ret=>exact fun Q e a w L e0 hs hof hr h=>wp_ret ⟨e,hr,hof,h⟩
 | exit i=>exact fun Q e a w L e0 hs hof hr h=>wp_exit ⟨e,hr,hof,h⟩
 | region id ops draw =>
  intro Q e a w L e0 hs hof hr h
  unfold den at h
  split at h
  ·cases draw with
   | true=>exact denDraw_of hm (K:=fun e w=>Q .normal e w) (fun e a w hr hof h=>⟨e,hr,hof,h⟩) hs hof hr h
   | false=>exact wp_region_list (denOps_of (K:=fun e w=>Q .normal e w) (fun e a w hr hof h=>⟨e,hr,hof,h⟩) _ e a w hs hof hr h)
  ·rename_i l hl
   cases hb:(noDef (.region id ops draw) && maskOk n (asgMask (.region id ops draw)) && stOk n l)
   ·rw [hb] at h;exact h.elim
   ·rw [hb] at h
    simp only [Bool.and_eq_true] at hb
    obtain ⟨J,hJ,hrest⟩:=h
    have back:∀ e' a' w',Rel n e' a'→Off (codeOps (.region id ops draw)) e e'→getSt l e' (fun s=>J s w')→∃ e',Rel n e' a'∧Off L e0 e'∧Q .normal e' w':=by
     intro e' a' w' hr' hof' h'
     obtain ⟨s,hh,h'⟩:=getSt_of h'
     have:=hrest e'.t s w' h'
     simp only [forget_same hof' hb.1.1] at this
     exact ⟨e',hr',hof.trans hof' hs,setSt_of hh this⟩
    cases draw with
    | true=>exact denDraw_of hm (K:=fun e w=>getSt l e fun s=>J s w) (L:=codeOps (.region id ops true)) (e0:=e) (fun e' a' w' hr' hof' h'=>back e' a' w' hr' hof' h') (fun o ho=>ho) (Off.refl _ _) hr hJ
    | false=>exact wp_region_list (denOps_of (K:=fun e w=>getSt l e fun s=>J s w) (L:=codeOps (.region id ops false)) (e0:=e) (fun e' a' w' hr' hof' h'=>back e' a' w' hr' hof' h') _ e a w (fun o ho=>ho) (Off.refl _ _) hr hJ)
 | seq x y ihx ihy =>
  intro Q e a w L e0 hs hof hr h
  refine wp_seq (wp_mono (ihx _ e a w L e0 (fun o ho=>hs o (List.mem_append_left _ ho)) hof hr h) fun q a' w' ⟨e',hr',hof',h'⟩=>?_)
  cases q <;> first
   | exact ihy Q e' a' w' L e0 (fun o ho=>hs o (List.mem_append_right _ ho)) hof' hr' h'
   | exact ⟨e',hr',hof',h'⟩
 | cond cnd x y ihx ihy =>
  intro Q e a w L e0 hs hof hr h
  unfold den at h
  split at h
  ·rename_i b hc
   split at h
   ·refine wp_cond (t:=b) ((hr.ev cnd).trans hc) ?_
    cases b
    ·exact ihy Q e a w L e0 (fun o ho=>hs o (List.mem_append_right _ ho)) hof hr h
    ·exact ihx Q e a w L e0 (fun o ho=>hs o (List.mem_append_left _ ho)) hof hr h
   ·rename_i l hl
    cases hb:(noDef (.cond cnd x y) && maskOk n (asgMask (.cond cnd x y)) && stOk n l)
    ·rw [hb] at h;exact h.elim
    ·rw [hb] at h
     simp only [Bool.and_eq_true] at hb
     obtain ⟨J,hJ,hrest⟩:=h
     have back:∀ e' a' w',Rel n e' a'→Off (codeOps (.cond cnd x y)) e e'→getSt l e' (fun s=>J s w')→∃ e',Rel n e' a'∧Off L e0 e'∧Q .normal e' w':=by
      intro e' a' w' hr' hof' h'
      obtain ⟨s,hh,h'⟩:=getSt_of h'
      have:=hrest e'.t s w' h'
      simp only [forget_same hof' hb.1.1] at this
      exact ⟨e',hr',hof.trans hof' hs,setSt_of hh this⟩
     have fin:∀ q a' w',(∃ e',Rel n e' a'∧Off (codeOps (.cond cnd x y)) e e'∧(match q,e',w' with
       | .normal,e',w=>getSt l e' fun s=>J s w
       | q,e',w=>Q q e' w))→∃ e',Rel n e' a'∧Off L e0 e'∧Q q e' w':=by
      rintro q a' w' ⟨e',hr',hof',h'⟩
      cases q with
      | normal=>exact back e' a' w' hr' hof' h'
      | _=>exact ⟨e',hr',hof.trans hof' hs,h'⟩
     refine wp_cond (t:=b) ((hr.ev cnd).trans hc) ?_
     cases b
     ·exact wp_mono (ihy _ e a w (codeOps (.cond cnd x y)) e (fun o ho=>List.mem_append_right _ ho) (Off.refl _ _) hr hJ) fin
     ·exact wp_mono (ihx _ e a w (codeOps (.cond cnd x y)) e (fun o ho=>List.mem_append_left _ ho) (Off.refl _ _) hr hJ) fin
  ·exact h.elim
 | block i c ih =>
  intro Q e a w L e0 hs hof hr h
  unfold den at h
  split at h
  ·refine wp_block (wp_mono (ih _ e a w L e0 hs hof hr h) fun q a' w' ⟨e',hr',hof',h'⟩=>?_)
   cases q with
   | exit i' =>
    simp only [Exit.inBlock]
    by_cases hi:i'=i
    ·subst hi;rw [if_pos rfl];simp only [Nat.beq_refl,cond_true] at h';exact ⟨e',hr',hof',h'⟩
    ·have hb:Nat.beq i' i=false:=Bool.eq_false_iff.2 fun hb=>hi (Nat.eq_of_beq_eq_true hb)
     rw [if_neg hi];simp only [hb,cond_false] at h';exact ⟨e',hr',hof',h'⟩
   | _=>exact ⟨e',hr',hof',h'⟩
  ·rename_i l hl
   cases hb:(noDef c && maskOk n (asgMask c) && stOk n l)
   ·rw [hb] at h;exact h.elim
   ·rw [hb] at h
    simp only [Bool.and_eq_true] at hb
    obtain ⟨J,hJ,hrest⟩:=h
    have back:∀ e' a' w',Rel n e' a'→Off (codeOps c) e e'→getSt l e' (fun s=>J s w')→∃ e',Rel n e' a'∧Off L e0 e'∧Q .normal e' w':=by
     intro e' a' w' hr' hof' h'
     obtain ⟨s,hh,h'⟩:=getSt_of h'
     have:=hrest e'.t s w' h'
     simp only [forget_same hof' hb.1.1] at this
     exact ⟨e',hr',hof.trans hof' hs,setSt_of hh this⟩
    refine wp_block (wp_mono (ih _ e a w (codeOps c) e (fun _ h=>h) (Off.refl _ _) hr hJ) fun q a' w' ⟨e',hr',hof',h'⟩=>?_)
    cases q with
    | exit i' =>
     simp only [Exit.inBlock]
     by_cases hi:i'=i
     ·subst hi;rw [if_pos rfl];simp only [Nat.beq_refl,cond_true] at h';exact back e' a' w' hr' hof' h'
     ·have hb':Nat.beq i' i=false:=Bool.eq_false_iff.2 fun hb=>hi (Nat.eq_of_beq_eq_true hb)
      rw [if_neg hi];simp only [hb',cond_false] at h';exact ⟨e',hr',hof.trans hof' hs,h'⟩
    | normal=>exact back e' a' w' hr' hof' h'
    | _=>exact ⟨e',hr',hof.trans hof' hs,h'⟩
 | loop c ih =>
  intro Q e a w L e0 hs hof hr h
  unfold den at h
  split at h
  ·exact h.elim
  ·rename_i r hr0
   generalize A.loops r=l at h
   cases hb:(noDef c && maskOk n (asgMask c) && stOk n l)
   ·rw [hb] at h;exact h.elim
   ·rw [hb] at h
    simp only [Bool.and_eq_true] at hb
    simp only [cond_true] at h
    obtain ⟨s,hh,I,⟨m,hI⟩,round⟩:=getSt_of h
    refine wp_loop_rel (fun m a' w'=>∃ e' s,Rel n e' a'∧Off (codeOps c) e e'∧Holds l s e'∧I m s w') ⟨m,e,s,hr,Off.refl _ _,hh,hI⟩ ?_
    rintro m a' w' ⟨e',s,hr',hof',hh',hI'⟩
    have hround:=round e'.t m s w' hI'
    simp only [forget_same hof' hb.1.1] at hround
    have hround:=setSt_of hh' hround
    refine wp_mono (ih _ e' a' w' (codeOps c) e (fun _ h=>h) hof' hr' hround) fun q a'' w'' ⟨e'',hr'',hof'',h''⟩=>?_
    cases q with
    | normal =>
     obtain ⟨s'',hh'',m',hlt,hI''⟩:=getSt_of h''
     exact ⟨m',hlt,e'',s'',hr'',hof'',hh'',hI''⟩
    | _=>exact ⟨e'',hr'',hof.trans hof'' hs,h''⟩
 | _=>intro Q e a w L e0 hs hof hr h;exact h.elim
def rets (P:Program):List ResultVar→Env→World→(List Value→Prop)→Prop
 | [],_,_,K=>K []
 | .tmp t::r,e,w,K=>rets P r e w fun vs=>K ((e.t t).v::vs)
 | .cell a t::r,e,w,K=>match (e.t a).v with
  | .pointer (some ⟨b,o,none⟩)=>match kd1 P t with
   | .agg n=>LdA n b o (At w) fun cs=>rets P r e w fun vs=>K (.agg cs::vs)
   | .bad=>False
   | _=>LdV b o (At w) fun v=>rets P r e w fun vs=>K (v::vs)
  | _=>False
def one:List Value→Value
 | [v]=>v
 | vs=>.tuple vs.toArray
def Ret (d:List Deferred) (p:Prop):Prop:=d=[]∧p
def retQ (P:Program) (fn:Func) (R:Value→World→Prop):Exit→Env→World→Prop
 | .normal,e,w=>rets P fn.results.toList e w fun vs=>Ret e.d (R (one vs) w)
 | .ret,e,w=>rets P fn.results.toList e w fun vs=>Ret e.d (R (one vs) w)
 | _,_,_=>False
def resOf (tmps:Array Value):ResultVar→Sem Value
 | .tmp t=>pure (tmps.getD t undef)
 | .cell x t=>do loadVar t (← asAddr (tmps.getD x undef))
theorem asAddr_run (a:Addr) (w:World):(asAddr (.pointer (some a))).run P w=.ok a w:=rfl
theorem rets_of:∀ (l:List ResultVar) {e:Env} {a:Act} {w:World} {K:List Value→Prop},Rel n e a→rets P l e w K →
  ∃ vs,(l.mapM (m:=Sem) (resOf a.tmps)).run P w=.ok vs w∧K vs
 | [],_,_,_,_,_,h=>⟨[],rfl,h⟩
 | .tmp t::r,e,a,w,K,hr,h=>by
  obtain ⟨vs,hvs,h⟩:=rets_of r hr h
  refine ⟨_,?_,h⟩
  rw [List.mapM_cons]
  simp only [resOf,Sem.run_bind,Sem.run_pure,Result.andThen_ok,hvs,hr.t t]
 | .cell x t::r,e,a,w,K,hr,h=>by
  unfold rets at h
  split at h
  ·rename_i b o hx
   have hx':a.tmps.getD x undef=.pointer (some ⟨b,o,none⟩):=(hr.t x).trans hx
   split at h
   ·rename_i m hk
    obtain ⟨cs,hs,hc,h⟩:=h
    obtain ⟨vs,hvs,h⟩:=rets_of r hr h
    refine ⟨_,?_,h⟩
    rw [List.mapM_cons]
    simp only [resOf,Sem.run_bind,hx',asAddr_run,Sem.run_pure,Result.andThen_ok,run_load_agg hk hs (hc w ⟨w.drawn,rfl⟩),hvs]
   ·exact h.elim
   ·rename_i hk1 hk2
    obtain ⟨v,hv,h⟩:=h
    obtain ⟨vs,hvs,h⟩:=rets_of r hr h
    obtain ⟨d,hu⟩:=kd1_some (P:=P) (t:=t) hk2
    refine ⟨_,?_,h⟩
    rw [List.mapM_cons]
    simp only [resOf,Sem.run_bind,hx',asAddr_run,Sem.run_pure,Result.andThen_ok,run_load_one hu (fun n hn=>hk1 n hn) (hv w ⟨w.drawn,rfl⟩),hvs]
  ·exact h.elim
theorem results_of {fn:Func} {e:Env} {a:Act} {w:World} {R:Value→World→Prop} (hr:Rel n e a) (h:rets P fn.results.toList e w fun vs=>Ret e.d (R (one vs) w)) :
  ∃ v,(results fn a.tmps).run P w=.ok v w∧e.d=[]∧R v w:=by
 obtain ⟨vs,hvs,h⟩:=rets_of _ hr h
 refine ⟨_,?_,h⟩
 have e1:results fn a.tmps=(do let vs ← fn.results.mapM (resOf a.tmps);pure (if h:vs.size=1 then vs[0] else .tuple vs)):=rfl
 rw [e1,← Array.toArray_toList (xs:=fn.results),List.mapM_toArray]
 simp only [Sem.run_bind,map_eq_pure_bind,hvs,Result.andThen_ok,Sem.run_pure]
 congr 1
 match vs with
 | []=>rfl
 | [v]=>rfl
 | _::_::_=>simp [one]
def bodyOf (fn:Func):Code:=match fn.body with
 | some c=>c
 | none=>.skip
def env0 (args:List Value):Env:=⟨fun i=>.val ((args[i]?).getD undef),[]⟩
theorem calls_of_den {f:FuncId} {fn:Func} {c:Code} {args:List Value} {w:World} {R:Value→World→Prop} (A:Ann) (hm:P.follows .mixedOrders=true)
  (hf:P.funcs[f]? = some fn) (hb:fn.body=some c) (hargs:Nat.ble args.length fn.ntmps=true) (h:den P A fn.ntmps c (retQ P fn R) (env0 args) w):zB P f args.toArray w R:=by
 have hle:args.length≤fn.ntmps:=Nat.le_of_ble_eq_true hargs
 refine calls_of_wp hf hb ?_
 have hr:Rel fn.ntmps (env0 args) { tmps:=args.toArray++Array.replicate (fn.ntmps-args.toArray.size) undef,defers:=[] }:=by
  refine ⟨by simp;omega,fun i=>?_,rfl⟩
  simp only [env0,SV.v,Array.getD_eq_getD_getElem?,Array.getElem?_append,List.size_toArray,List.getElem?_toArray,Array.getElem?_replicate]
  by_cases hi:i<args.length
  ·simp [hi]
  ·rw [if_neg hi,List.getElem?_eq_none (by omega)]
   split <;> rfl
 refine wp_mono (den_of hm c _ _ _ w (codeOps c) _ (fun _ h=>h) (Off.refl _ _) hr h) fun q a' w' ⟨e',hr',_,h'⟩=>?_
 cases q <;> first
  | exact h'.elim
  | (obtain ⟨v,hv,hd,hR⟩:=results_of hr' h'
     exact ⟨hr'.d.trans hd,v,hv,v,rfl,hR⟩)
theorem zE {f:FuncId} {fn:Func} {args:List Value} {w:World} {R:Value→World→Prop} {F:Prop} (A:Ann) (hm:P.follows .mixedOrders=true)
  (hf:P.funcs[f]? = some fn) (hb:fn.body.isSome=true) (hargs:Nat.ble args.length fn.ntmps=true) (hF:den P A fn.ntmps (bodyOf fn) (retQ P fn R) (env0 args) w=F) (h:F) :
  zB P f args.toArray w R:=by
 subst hF
 cases hc:fn.body with
 | none=>rw [hc] at hb;cases hb
 | some c =>
  have he:bodyOf fn=c:=by unfold bodyOf;rw [hc]
  rw [he] at h
  exact calls_of_den A hm hf hc hargs h
end sound4
end Go.Ev
namespace Go.Ev
open Go Go.RowKit
section words
variable {P:Program} {w:World} {p q:Prop}
@[simp] theorem Req_true:Req True p ↔ p:=by simp [Req]
@[simp] theorem Req_rfl {α:Type} {a:α}:Req (a=a) p ↔ p:=by simp [Req]
theorem Req_iff:Req p q ↔ p∧q:=Iff.rfl
@[simp] theorem Ret_nil:Ret [] p ↔ p:=by simp [Ret]
@[simp] theorem Cb_true:Cb true p q ↔ p:=Iff.rfl
@[simp] theorem Cb_false:Cb false p q ↔ q:=Iff.rfl
theorem Cb_iff {b:Bool}:Cb b p q ↔ (b=true→p)∧(b=false→q):=by cases b <;> simp
theorem Cb_of {b:Bool} (h1:b=true→p) (h2:b=false→q):Cb b p q:=Cb_iff.2 ⟨h1,h2⟩
@[simp] theorem zA {k:IntKind} {n:Int} {K:Int→Prop}:OpI k (.int k n) K ↔ K n:=by simp [OpI]
@[simp] theorem OpB_bool {b:Bool} {K:Bool→Prop}:OpB (.bool b) K ↔ K b:=by simp [OpB]
@[simp] theorem OpT_str {s:ByteArray} {K:ByteArray→Prop}:OpT (.string s) K ↔ K s:=by simp [OpT]
@[simp] theorem OpP_none {K:Nat→Nat→Prop}:OpP (.pointer none) p K ↔ p:=by simp [OpP]
@[simp] theorem OpP_some {b o:Nat} {K:Nat→Nat→Prop}:OpP (.pointer (some ⟨b,o,none⟩)) p K ↔ K b o:=by
 simp only [OpP,reduceCtorEq,false_and,Value.pointer.injEq,Option.some.injEq,Addr.mk.injEq,and_true,false_or]
 exact ⟨fun ⟨_,_,⟨rfl,rfl⟩,h⟩=>h,fun h=>⟨_,_,⟨rfl,rfl⟩,h⟩⟩
@[simp] theorem OpN_some {b o:Nat} {K:Nat→Nat→Prop}:OpN (.pointer (some ⟨b,o,none⟩)) K ↔ K b o:=by
 simp only [OpN,Value.pointer.injEq,Option.some.injEq,Addr.mk.injEq,and_true]
 exact ⟨fun ⟨_,_,⟨rfl,rfl⟩,h⟩=>h,fun h=>⟨_,_,⟨rfl,rfl⟩,h⟩⟩
@[simp] theorem zC {a:Option Addr} {l c:Nat} {K:Option Addr→Nat→Nat→Prop}:OpS (.slice a l c) K ↔ K a l c:=by
 simp only [OpS,Value.slice.injEq]
 exact ⟨fun ⟨_,_,_,⟨rfl,rfl,rfl⟩,h⟩=>h,fun h=>⟨_,_,_,⟨rfl,rfl,rfl⟩,h⟩⟩
@[simp] theorem OpM_map {m:Option Nat} {K:Option Nat→Prop}:OpM (.map m) K ↔ K m:=by simp [OpM]
@[simp] theorem OpA_agg {n:Nat} {cs:Array Value} {K:Array Value→Prop}:OpA n (.agg cs) K ↔ cs.size=n∧K cs:=by
 simp only [OpA,Value.agg.injEq]
 exact ⟨fun ⟨_,h,hs,hK⟩=>by subst h;exact ⟨hs,hK⟩,fun ⟨hs,hK⟩=>⟨_,rfl,hs,hK⟩⟩
@[simp] theorem T2_mk {a b:Value} {K:Value→Value→Prop}:T2 (.tuple #[a,b]) K ↔ K a b:=by
 simp only [T2,Value.tuple.injEq]
 exact ⟨fun ⟨_,_,h,hK⟩=>by cases h;exact hK,fun h=>⟨_,_,rfl,h⟩⟩
@[simp] theorem T3_mk {a b c:Value} {K:Value→Value→Value→Prop}:T3 (.tuple #[a,b,c]) K ↔ K a b c:=by
 simp only [T3,Value.tuple.injEq]
 exact ⟨fun ⟨_,_,_,h,hK⟩=>by cases h;exact hK,fun h=>⟨_,_,_,rfl,h⟩⟩
@[simp] theorem T4_mk {a b c d:Value} {K:Value→Value→Value→Value→Prop}:T4 (.tuple #[a,b,c,d]) K ↔ K a b c d:=by
 simp only [T4,Value.tuple.injEq]
 exact ⟨fun ⟨_,_,_,_,h,hK⟩=>by cases h;exact hK,fun h=>⟨_,_,_,_,rfl,h⟩⟩
@[simp] theorem Drw_iff {K:World→Prop}:Drw w K ↔ ∀ d,K (w.dr d):=Iff.rfl
@[simp] theorem Dr1_iff {K:World→Prop}:Dr1 w K ↔ ∀ d,w.drawn≤d→K (w.dr d):=Iff.rfl
theorem Alc_iff {t:TypeId} {cs:Array Value} {K:Nat→World→Prop}:Alc t cs w K ↔ K w.heap.size (w.alloc (.cells cs t)):=Iff.rfl
@[simp] theorem LdV_at {b o:Nat} {K:Value→Prop}:LdV b o (At w) K ↔ ∃ v,w.cell? ⟨b,o,none⟩=some v∧K v :=
 ⟨fun ⟨v,h,hK⟩=>⟨v,h w ⟨w.drawn,rfl⟩,hK⟩,fun ⟨v,h,hK⟩=>⟨v,fun _ ⟨d,hd⟩=>by subst hd;exact h,hK⟩⟩
end words
@[simp] theorem heap_dr' (w:World) (d:Nat):(w.dr d).heap=w.heap:=rfl
@[simp] theorem os_dr (w:World) (d:Nat):(w.dr d).os=w.os:=rfl
@[simp] theorem tape_dr (w:World) (d:Nat):(w.dr d).tape=w.tape:=rfl
@[simp] theorem output_dr (w:World) (d:Nat):(w.dr d).output=w.output:=rfl
def _root_.Go.World.upd (w:World) (b:Nat) (x:Obj):World:={ w with heap:=w.heap.setIfInBounds b x }
theorem cell_of {w:World} {b o:Nat} {c:Array Value} {t:TypeId} {f:Nat×Nat} (h:w.heap[b]? = some (.cells c t f)):w.cell? ⟨b,o,none⟩=c[o]? := by
 simp [World.cell?,h]
theorem frozen_of {w:World} {b o:Nat} {c:Array Value} {t:TypeId} (h:w.heap[b]? = some (.cells c t (0,0))):w.frozen? ⟨b,o,none⟩=false:=by
 simp [World.frozen?,h]
theorem setCell_upd {w:World} {b o:Nat} {c:Array Value} {t:TypeId} {f:Nat×Nat} (h:w.heap[b]? = some (.cells c t f)) (v:Value) :
  w.setCell ⟨b,o,none⟩ v=w.upd b (.cells (c.setIfInBounds o v) t f):=by
 unfold World.setCell World.upd
 congr 1
 apply Array.ext_getElem?
 intro i
 rw [Array.getElem?_modify,Array.getElem?_setIfInBounds]
 by_cases hi:b=i
 ·subst hi
  have hlt:=(Array.getElem?_eq_some_iff.1 h).1
  rw [if_pos rfl,h,if_pos rfl]
  simp [hlt]
 ·simp [hi]
theorem putRow_upd {w:World} {b o:Nat} {c:Array Value} {t:TypeId} {f:Nat×Nat} (h:w.heap[b]? = some (.cells c t f)) (cs:Array Value) :
  w.putRow b o cs=w.upd b (.cells (spl c o cs) t f):=by
 unfold World.putRow World.upd
 congr 1
 apply Array.ext_getElem?
 intro i
 rw [Array.getElem?_modify,Array.getElem?_setIfInBounds]
 by_cases hi:b=i
 ·subst hi
  have hlt:=(Array.getElem?_eq_some_iff.1 h).1
  rw [if_pos rfl,h,if_pos rfl]
  simp [hlt]
 ·simp [hi]
def Has (w:World) (b:Nat) (x:Obj):Prop:=w.heap[b]? = some x
theorem Has.lt {w:World} {b:Nat} {x:Obj} (h:Has w b x):b<w.heap.size:=(Array.getElem?_eq_some_iff.1 h).1
theorem Has.dr {w:World} {b:Nat} {x:Obj} (h:Has w b x) (d:Nat):Has (w.dr d) b x:=h
theorem Has.upd_same {w:World} {b:Nat} {x:Obj} (h:Has w b x) (y:Obj):Has (w.upd b y) b y:=by
 unfold Has World.upd
 simp [h.lt]
theorem Has.upd {w:World} {b b':Nat} {x y:Obj} (h:Has w b x) (hne:b≠b'):Has (w.upd b' y) b x:=by
 unfold Has World.upd
 rw [Array.getElem?_setIfInBounds_ne (Ne.symm hne)]
 exact h
theorem Has.alloc {w:World} {b:Nat} {x y:Obj} (h:Has w b x):Has (w.alloc y) b x:=by
 unfold Has World.alloc
 rw [Array.getElem?_push,if_neg (by have:=h.lt;omega)]
 exact h
theorem Has.new (w:World) (x:Obj):Has (w.alloc x) w.heap.size x:=by
 unfold Has World.alloc
 simp
theorem Has.ne_new {w:World} {b:Nat} {x:Obj} (h:Has w b x):b≠w.heap.size:=by have:=h.lt;omega
theorem Has.inj {w:World} {b:Nat} {x y:Obj} (h:Has w b x) (h':Has w b y):x=y:=Option.some.inj (h.symm.trans h')
theorem Has.ne {w:World} {b b':Nat} {x y:Obj} (h:Has w b x) (h':Has w b' y) (hne:x≠y):b≠b':=fun e=>by subst e;exact hne (h.inj h')
@[simp] theorem size_upd (w:World) (b:Nat) (x:Obj):(w.upd b x).heap.size=w.heap.size:=by simp [World.upd]
structure Keep (S:Nat→Prop) (w w':World):Prop where
 os:w'.os=w.os
 tape:w'.tape=w.tape
 output:w'.output=w.output
 size:w.heap.size≤w'.heap.size
 block:∀ k,k<w.heap.size→¬ S k→w'.heap[k]? = w.heap[k]?
theorem Keep.refl (S:Nat→Prop) (w:World):Keep S w w:=⟨rfl,rfl,rfl,Nat.le_refl _,fun _ _ _=>rfl⟩
theorem Keep.trans {S:Nat→Prop} {a b c:World} (h:Keep S a b) (k:Keep S b c):Keep S a c :=
 ⟨k.os.trans h.os,k.tape.trans h.tape,k.output.trans h.output,Nat.le_trans h.size k.size,fun i hi hS=>(k.block i (by have:=h.size;omega) hS).trans (h.block i hi hS)⟩
theorem Keep.mono {S S':Nat→Prop} {a b:World} (h:Keep S a b) (hs:∀ k,S k→S' k):Keep S' a b :=
 ⟨h.os,h.tape,h.output,h.size,fun k hk hS=>h.block k hk fun h=>hS (hs k h)⟩
theorem Keep.trans' {S S':Nat→Prop} {a b c:World} (h:Keep S a b) (k:Keep S' b c) (hs:∀ k,k<a.heap.size→S' k→S k):Keep S a c :=
 ⟨k.os.trans h.os,k.tape.trans h.tape,k.output.trans h.output,Nat.le_trans h.size k.size,
  fun i hi hS=>(k.block i (by have:=h.size;omega) fun h'=>hS (hs i hi h')).trans (h.block i hi hS)⟩
theorem Keep.dr {S:Nat→Prop} {a b:World} (h:Keep S a b) (d:Nat):Keep S a (b.dr d):=⟨h.os,h.tape,h.output,h.size,h.block⟩
theorem Keep.alloc {S:Nat→Prop} {a b:World} (h:Keep S a b) (o:Obj):Keep S a (b.alloc o) :=
 h.trans ⟨rfl,rfl,rfl,by simp,fun k hk _=>by unfold World.alloc;rw [Array.getElem?_push,if_neg (by omega)]⟩
theorem Keep.upd {S:Nat→Prop} {a b:World} (h:Keep S a b) {k:Nat} (hk:k<a.heap.size→S k) (o:Obj):Keep S a (b.upd k o) :=
 h.trans' (S':=fun i=>i=k) ⟨rfl,rfl,rfl,by simp,fun i _ hS=>by unfold World.upd;rw [Array.getElem?_setIfInBounds_ne (fun e=>hS e.symm)]⟩ (fun i hi e=>by subst e;exact hk hi)
theorem Keep.one (w:World) (b:Nat) (o:Obj):Keep (fun k=>k=b) w (w.upd b o):=(Keep.refl (fun k=>k=b) w).upd (fun _=>rfl) o
theorem Keep.new (S:Nat→Prop) (w:World) (o:Obj):Keep S w (w.alloc o):=(Keep.refl S w).alloc o
theorem Keep.drew (S:Nat→Prop) (w:World) (d:Nat):Keep S w (w.dr d):=(Keep.refl S w).dr d
theorem Keep.has {S:Nat→Prop} {a b:World} (h:Keep S a b) {k:Nat} {x:Obj} (hx:Has a k x) (hS:¬ S k):Has b k x:=(h.block k hx.lt hS).trans hx
theorem Keep.below {a b:World} (h:Keep (fun _=>False) a b):Below a.heap.size a b:=⟨h.os,h.tape,h.output,h.size,fun k hk=>h.block k hk (fun h=>h)⟩
theorem StV_of {w:World} {b o:Nat} {c:Array Value} {t:TypeId} {v:Value} {K:World→Prop} (h:Has w b (.cells c t (0,0))) (ho:o<c.size) (h1:oneV v=true)
  (hK:K (w.upd b (.cells (c.setIfInBounds o v) t (0,0)))):StV b o v w K :=
 ⟨h1,⟨c[o],by rw [cell_of h];simp [ho]⟩,frozen_of h,by rw [setCell_upd h];exact hK⟩
theorem StA_of {w:World} {n b o:Nat} {c cs:Array Value} {t:TypeId} {K:World→Prop} (h:Has w b (.cells c t (0,0))) (hs:cs.size=n) (ho:o+n≤c.size) (h1:∀ v∈cs.toList,oneV v=true)
  (hK:K (w.upd b (.cells (spl c o cs) t (0,0)))):StA n b o cs w K :=
 ⟨hs,h1,⟨c,t,h,ho⟩,by rw [putRow_upd h];exact hK⟩
theorem LdV_of {C:World→Prop} {b o:Nat} {v:Value} {K:Value→Prop} (h:∀ w,C w→∃ c t f,Has w b (.cells c t f)∧c[o]? = some v) (hK:K v):LdV b o C K :=
 ⟨v,fun w hw=>by obtain ⟨c,t,f,h,hv⟩:=h w hw;rw [cell_of h,hv],hK⟩
theorem LdA_of {C:World→Prop} {n b o:Nat} {cs:Array Value} {K:Array Value→Prop} (hn:cs.size=n) (h:∀ w,C w→∃ c t f,Has w b (.cells c t f)∧o+n≤c.size∧c.extract o (o+n)=cs) (hK:K cs):LdA n b o C K :=
 ⟨cs,hn,fun w hw i hi=>by
  obtain ⟨c,t,f,h,hle,he⟩:=h w hw
  rw [cell_of h,← he,Array.getElem?_extract]
  simp [show i<min (o+n) c.size-o by omega],hK⟩
theorem LdV_has {w:World} {b o:Nat} {c:Array Value} {t:TypeId} {f:Nat×Nat} {v:Value} {K:Value→Prop} (h:Has w b (.cells c t f)) (hv:c[o]? = some v) (hK:K v):LdV b o (At w) K :=
 LdV_of (fun w' ⟨d,hd⟩=>⟨c,t,f,by subst hd;exact h,hv⟩) hK
theorem LdA_has {w:World} {n b o:Nat} {c:Array Value} {t:TypeId} {f:Nat×Nat} {cs:Array Value} {K:Array Value→Prop} (h:Has w b (.cells c t f)) (hle:o+n≤c.size) (he:c.extract o (o+n)=cs) (hK:K cs) :
  LdA n b o (At w) K :=
 LdA_of (by rw [← he];simp;omega) (fun w' ⟨d,hd⟩=>⟨c,t,f,by subst hd;exact h,hle,he⟩) hK
theorem LdA_all {w:World} {n b:Nat} {c:Array Value} {t:TypeId} {f:Nat×Nat} {K:Array Value→Prop} (h:Has w b (.cells c t f)) (hn:c.size=n) (hK:K c):LdA n b 0 (At w) K :=
 LdA_has h (by omega) (by rw [← hn];simp) hK
theorem spl_all (c cs:Array Value) (h:c.size=cs.size):spl c 0 cs=cs:=by
 unfold spl
 have:c.toList.length≤0+cs.size:=by simp;omega
 rw [List.drop_eq_nil_of_le this]
 simp
theorem StA_all {w:World} {n b:Nat} {c cs:Array Value} {t:TypeId} {K:World→Prop} (h:Has w b (.cells c t (0,0))) (hs:cs.size=n) (hn:c.size=n) (h1:∀ v∈cs.toList,oneV v=true)
  (hK:K (w.upd b (.cells cs t (0,0)))):StA n b 0 cs w K :=
 StA_of h hs (by omega) h1 (by rw [spl_all _ _ (by omega)];exact hK)
theorem DoQ_of {P:Program} {s:Sem Value} {w:World} {v:Value} {K:Value→Prop} (h:∀ d,s.run P (w.dr d)=.ok v (w.dr d)) (hK:K v):DoQ P s (At w) K :=
 ⟨v,fun _ ⟨d,hd⟩=>by subst hd;exact h d,hK⟩
theorem zB.mono {P:Program} {f:FuncId} {args:Array Value} {w:World} {K K':Value→World→Prop} (h:zB P f args w K) (hk:∀ v w',K v w'→K' v w'):zB P f args w K' :=
 Calls.mono h fun _ _ ⟨v,hv,hK⟩=>⟨v,hv,hk _ _ hK⟩
theorem LoopC_of {σ:Type} {body:(Nat→SV)→σ→World→(σ→World→Prop)→Prop} {s:σ} {w:World} (I:σ→World→Prop) (μ:σ→World→Nat) (h0:I s w)
  (h:∀ j s w,I s w→body j s w fun s' w'=>∃ m,m<μ s w∧(I s' w'∧μ s' w'=m)):LoopC body s w :=
 ⟨fun m s w=>I s w∧μ s w=m,⟨_,h0,rfl⟩,fun j m s w ⟨hI,hm⟩=>by subst hm;exact h j s w hI⟩
def ofF (n:Nat) (g:Nat→Value):Array Value:=((List.range n).map g).toArray
@[simp] theorem size_ofF (n:Nat) (g:Nat→Value):(ofF n g).size=n:=by simp [ofF]
theorem get_ofF {n i:Nat} (g:Nat→Value) (h:i<n):(ofF n g)[i]? = some (g i):=by simp [ofF,h]
theorem set_ofF (n k:Nat) (g:Nat→Value) (v:Value):(ofF n g).setIfInBounds k v=ofF n fun i=>if i=k then v else g i:=by
 have h1:∀ (g:Nat→Value) (i:Nat),¬ i<n→(ofF n g)[i]? = none:=fun g i hi=>by simp [ofF];omega
 apply Array.ext_getElem?
 intro i
 rw [Array.getElem?_setIfInBounds]
 by_cases hi:i<n
 ·rw [get_ofF _ hi]
  by_cases e:k=i
  ·subst e;rw [if_pos rfl,if_pos (by simpa using hi),get_ofF _ hi,if_pos rfl]
  ·rw [if_neg e,get_ofF _ hi,if_neg (fun h=>e h.symm)]
 ·rw [h1 _ _ hi,h1 _ _ hi]
  by_cases e:k=i
  ·subst e;rw [if_pos rfl,if_neg (by simpa using hi)]
  ·rw [if_neg e]
theorem ofF_congr {n:Nat} {g g':Nat→Value} (h:∀ i,i<n→g i=g' i):ofF n g=ofF n g':=by
 unfold ofF
 congr 1
 exact List.map_congr_left fun i hi=>h i (List.mem_range.1 hi)
theorem wrapI {x:Int} (h1 : -9223372036854775808≤x) (h2:x≤9223372036854775807):IntKind.wrap .i64 x=x:=by rw [IntKind.wrap_i64];omega
theorem wrapN {k:IntKind} {x:Int} (h1:k.min≤x) (h2:x≤k.max):k.wrap x=x:=by
 cases k <;> simp [IntKind.wrap,IntKind.min,IntKind.max,IntKind.signed,IntKind.bits] at * <;> omega
theorem wrapU64 {x:Int} (h1:0≤x) (h2:x≤18446744073709551615):IntKind.wrap .u64 x=x:=wrapN h1 h2
theorem wrapU8 {x:Int} (h1:0≤x) (h2:x≤255):IntKind.wrap .u8 x=x:=wrapN h1 h2
theorem wrapU32 {x:Int} (h1:0≤x) (h2:x≤4294967295):IntKind.wrap .u32 x=x:=wrapN h1 h2
theorem upd_upd (w:World) (b:Nat) (x y:Obj):(w.upd b x).upd b y=w.upd b y:=by
 unfold World.upd
 simp only
 congr 1
 apply Array.ext_getElem?
 intro i
 simp only [Array.getElem?_setIfInBounds,Array.size_setIfInBounds]
 split <;> rfl
end Go.Ev
namespace Go.Ev
open Go
structure MapOk (k:IntKind) (arr:Array MapEntry) (clk:Nat) (es:List (Int×Value)):Prop where
 ent:arr.toList.map (fun e=>(e.key,e.val))=es.map fun p=>(Value.int k p.1,p.2)
 keys:(es.map (·.1)).Nodup
 stamps:(arr.toList.map (·.born)).Nodup
 clock:∀ e∈arr.toList,e.born<clk
def MapAt (k:IntKind) (w:World) (m:Nat) (es:List (Int×Value)):Prop:=∃ arr clk,Has w m (.map arr clk)∧MapOk k arr clk es
def mlook {α:Type} (es:List (Int×α)) (x:Int):Option α:=(es.find? fun p=>p.1==x).map (·.2)
def ins {α:Type} (es:List (Int×α)) (x:Int) (v:α):List (Int×α) :=
 if es.any (fun p=>p.1==x) then es.map (fun p=>if p.1==x then (x,v) else p) else es++[(x,v)]
def del {α:Type} (es:List (Int×α)) (x:Int):List (Int×α):=es.filter fun p => !(p.1==x)
theorem MapAt.dr {k:IntKind} {w:World} {m:Nat} {es:List (Int×Value)} (h:MapAt k w m es) (d:Nat):MapAt k (w.dr d) m es:=h
theorem MapAt.keep {k:IntKind} {w w':World} {m:Nat} {es:List (Int×Value)} {S:Nat→Prop} (h:MapAt k w m es) (hk:Keep S w w') (hS:¬ S m):MapAt k w' m es:=by
 obtain ⟨arr,clk,hb,ho⟩:=h
 exact ⟨arr,clk,hk.has hb hS,ho⟩
theorem MapAt.lt {k:IntKind} {w:World} {m:Nat} {es:List (Int×Value)} (h:MapAt k w m es):m<w.heap.size:=by
 obtain ⟨arr,clk,hb,ho⟩:=h
 exact hb.lt
theorem keys_nodup_ins {α:Type} {es:List (Int×α)} (h:(es.map (·.1)).Nodup) (x:Int) (v:α):((ins es x v).map (·.1)).Nodup:=by
 unfold ins
 split
 ·have:(es.map fun p=>if p.1==x then (x,v) else p).map (·.1)=es.map (·.1):=by
   rw [List.map_map]
   apply List.map_congr_left
   intro p _
   simp only [Function.comp]
   split
   ·rename_i hp;simp at hp;simp [hp]
   ·rfl
  rw [this];exact h
 ·rename_i hn
  rw [List.map_append,List.nodup_append]
  refine ⟨h,by simp,?_⟩
  intro a ha b hb
  simp at hb
  subst hb
  intro e
  subst e
  apply hn
  obtain ⟨p,hp,rfl⟩:=List.mem_map.1 ha
  exact List.any_eq_true.2 ⟨p,hp,by simp⟩
section run
variable {P:Program} {k:IntKind} {w:World}
theorem run_checkKey_int {e:Bool} {t:TypeId} (ht:P.underlying t=some (.int k)) (x:Int) (n:Nat):(Instr.checkKey e (n+1) t (.int k x)).run P w=.ok () w:=by
 simp [Instr.checkKey,Sem.run_bind,run_dr_underlying ht,Sem.run_pure]
theorem findNow_int:∀ (l:List MapEntry) (es:List (Int×Value)) (x:Int) (i:Nat),l.map (fun e=>(e.key,e.val))=es.map (fun p=>(Value.int k p.1,p.2)) →
  Instr.findNow (.int k) (.int k x) l i=some ((es.findIdx? fun p=>p.1==x).bind fun j=>(es[j]?).map fun p=>(i+j,p.2))
 | [],[],x,i,_=>by simp [Instr.findNow]
 | e::l,p::es,x,i,h=>by
  simp only [List.map_cons,List.cons.injEq,Prod.mk.injEq] at h
  obtain ⟨⟨hk,hv⟩,h⟩:=h
  unfold Instr.findNow
  rw [hk]
  simp only [Instr.sameNow,if_true]
  by_cases hx:x=p.1
  ·have h1:(x==p.1)=true:=by simp [hx]
   have h2:(p.1==x)=true:=by simp [hx]
   rw [h1,List.findIdx?_cons,h2]
   simp [hv]
  ·have h1:(x==p.1)=false:=by simp [hx]
   have h2:(p.1==x)=false:=beq_eq_false_iff_ne.2 fun h=>hx h.symm
   rw [h1,List.findIdx?_cons,h2]
   simp only [findNow_int l es x (i+1) h,Bool.false_eq_true,if_false]
   cases hf:es.findIdx? fun p=>p.1==x with
   | none=>simp
   | some j=>simp;congr 1;funext q;congr 1;omega
 | [],_::_,_,_,h=>by simp at h
 | _::_,[],_,_,h=>by simp at h
theorem find_findIdx (es:List (Int×Value)) (x:Int):((es.findIdx? fun p=>p.1==x).bind fun j=>es[j]?)=es.find? fun p=>p.1==x:=by
 induction es with
 | nil=>rfl
 | cons p es ih =>
  rw [List.findIdx?_cons,List.find?_cons]
  by_cases h:(p.1==x)=true
  ·simp [h]
  ·simp only [h,Bool.false_eq_true,if_false]
   rw [← ih]
   cases es.findIdx? fun p=>p.1==x <;> simp
theorem run_findKey_int {t:TypeId} (ht:P.underlying t=some (.int k)) {arr:Array MapEntry} {clk:Nat} {es:List (Int×Value)} (h:MapOk k arr clk es) (x:Int) :
  (Instr.findKey t (.int k x) arr.toList).run P w=.ok ((es.findIdx? fun p=>p.1==x).bind fun j=>(es[j]?).map fun p=>(j,p.2)) w:=by
 simp only [Instr.findKey,Sem.run_bind,run_dr_underlying ht,Result.andThen_ok,findNow_int _ _ x 0 h.ent,Sem.run_pure,Nat.zero_add]
theorem run_getObj_map {m:Nat} {arr:Array MapEntry} {clk:Nat} (h:Has w m (.map arr clk)):(getObj m).run P w=.ok (.map arr clk) w:=by
 unfold Has at h
 simp [getObj,Sem.run,h]
theorem run_setObj_map {m:Nat} {arr:Array MapEntry} {clk:Nat} (h:Has w m (.map arr clk)) (x:Obj):(setObj m x).run P w=.ok () (w.upd m x):=by
 unfold Has at h
 simp [setObj,Sem.run,h,World.upd]
theorem run_zeroValue {t:TypeId} {i:TypeInfo} {z:Value} (hi:P.info? t=some i) (hz:i.zero=some z):(zeroValue t).run P w=.ok z w:=by
 simp [zeroValue,Sem.run_bind,run_typeInfo hi,hz,Sem.run_pure]
theorem run_lookup {t kt et:TypeId} {m:Nat} {es:List (Int×Value)} {z:Value} (ht:P.underlying t=some (.map kt et)) (hk:P.underlying kt=some (.int k)) (hz:∀ w,(zeroValue et).run P w=.ok z w)
  (h:MapAt k w m es) (x:Int) (ok:Bool) :
  (Instr.lookup t (.map (some m)) (.int k x) ok).run P w=.ok (if ok then .tuple #[(mlook es x).getD z,.bool (mlook es x).isSome] else (mlook es x).getD z) w:=by
 obtain ⟨arr,clk,hb,ho⟩:=h
 simp only [Instr.lookup,Sem.run_bind,run_dr_underlying ht,Result.andThen_ok,run_getObj_map hb,Sem.run_pure,run_checkKey_int hk,run_findKey_int hk ho]
 have hl:mlook es x=((es.findIdx? fun p=>p.1==x).bind fun j=>es[j]?).map (·.2):=by rw [find_findIdx];rfl
 cases hf:es.findIdx? fun p=>p.1==x with
 | none =>
  rw [hf] at hl
  simp only [Option.bind_none,Option.map_none] at hl ⊢
  rw [hl]
  simp only [Sem.run_bind,hz,Result.andThen_ok,Sem.run_pure]
  cases ok <;> simp [Sem.run_pure]
 | some j =>
  rw [hf] at hl
  have hj:j<es.length:=(List.findIdx?_eq_some_iff_getElem.1 hf).1
  simp only [Option.bind_some,List.getElem?_eq_getElem hj,Option.map_some] at hl ⊢
  rw [hl]
  cases ok <;> simp [Sem.run_pure]
theorem map_modify_ent {l:List MapEntry} {es:List (Int×Value)} (h:l.map (fun e=>(e.key,e.val))=es.map (fun p=>(Value.int k p.1,p.2))) (hn:(es.map (·.1)).Nodup) (x:Int) (v:Value) :
  ∀ j,es.findIdx? (fun p=>p.1==x)=some j→(l.modify j fun e=>{ e with key:=.int k x,val:=v }).map (fun e=>(e.key,e.val))=(es.map fun p=>if p.1==x then (x,v) else p).map (fun p=>(Value.int k p.1,p.2)):=by
 induction es generalizing l with
 | nil=>intro j hj;simp at hj
 | cons p es ih =>
  intro j hj
  cases l with
  | nil=>simp at h
  | cons e l =>
   simp only [List.map_cons,List.cons.injEq,Prod.mk.injEq] at h
   obtain ⟨⟨hk,hv⟩,h⟩:=h
   simp only [List.map_cons,List.nodup_cons] at hn
   rw [List.findIdx?_cons] at hj
   by_cases hx:(p.1==x)=true
   ·rw [hx] at hj
    simp only [if_true,Option.some.injEq] at hj
    subst hj
    have hx':p.1=x:=by simpa using hx
    simp only [List.modify_zero_cons,List.map_cons,hx,if_true,List.cons.injEq,true_and]
    rw [h]
    congr 1
    conv=>lhs;rw [← List.map_id es]
    apply List.map_congr_left
    intro q hq
    have:¬ (q.1==x)=true:=by
     intro hq'
     apply hn.1
     refine List.mem_map.2 ⟨q,hq,?_⟩
     have hq2:q.1=x:=by simpa using hq'
     rw [hq2,hx']
    simp [this]
   ·simp only [hx,Bool.false_eq_true,if_false] at hj
    cases hf:es.findIdx? fun p=>p.1==x with
    | none=>rw [hf] at hj;simp at hj
    | some j' =>
     rw [hf] at hj
     simp only [Option.map_some,Option.some.injEq] at hj
     subst hj
     simp only [List.modify_succ_cons,List.map_cons,hx,Bool.false_eq_true,if_false,List.cons.injEq,hk,hv,true_and]
     exact ih h hn.2 j' hf
theorem run_mapUpdate {t kt et:TypeId} {m:Nat} {es:List (Int×Value)} (ht:P.underlying t=some (.map kt et)) (hk:P.underlying kt=some (.int k)) (h:MapAt k w m es) (x:Int) (v:Value) :
  ∃ arr clk,(Instr.mapUpdate t (.map (some m)) (.int k x) v).run P w=.ok () (w.upd m (.map arr clk))∧MapOk k arr clk (ins es x v):=by
 obtain ⟨arr,clk,hb,ho⟩:=h
 have hkn:=keys_nodup_ins ho.keys x v
 cases hf:es.findIdx? fun p=>p.1==x with
 | none =>
  have hany:es.any (fun p=>p.1==x)=false:=by
   rw [List.findIdx?_eq_none_iff] at hf
   rw [List.any_eq_false]
   intro p hp;simpa using hf p hp
  refine ⟨arr.push { key:=.int k x,val:=v,born:=clk },clk+1,?_,?_,hkn,?_,?_⟩
  ·simp only [Instr.mapUpdate,Sem.run_bind,run_dr_underlying ht,Result.andThen_ok,run_getObj_map hb,run_checkKey_int hk,run_findKey_int hk ho,hf,Option.bind_none,run_setObj_map hb]
  ·simp [ins,hany,ho.ent]
  ·simp only [Array.toList_push,List.map_append,List.map_cons,List.map_nil,List.nodup_append]
   refine ⟨ho.stamps,by simp,?_⟩
   intro a ha b hb' e
   simp at hb'
   subst hb' e
   obtain ⟨q,hq,hqe⟩:=List.mem_map.1 ha
   have:=ho.clock q hq
   omega
  ·intro e he
   simp only [Array.toList_push,List.mem_append,List.mem_singleton] at he
   rcases he with he | rfl
   ·have:=ho.clock e he;omega
   ·simp
 | some j =>
  have hj:j<es.length:=(List.findIdx?_eq_some_iff_getElem.1 hf).1
  have hany:es.any (fun p=>p.1==x)=true:=by
   rw [List.any_eq_true]
   exact ⟨es[j],List.getElem_mem _,(List.findIdx?_eq_some_iff_getElem.1 hf).2.1⟩
  have hlen:arr.size=es.length:=by have:=congrArg List.length ho.ent;simpa using this
  refine ⟨arr.modify j fun e=>{ e with key:=.int k x,val:=v },clk,?_,?_,hkn,?_,?_⟩
  ·have hja:j<arr.size:=by omega
   have hkey:(arr[j]?).map (·.key)=some (.int k (es[j]).1):=by
    have h1:=congrArg (fun l=>(l[j]?).map (·.1)) ho.ent
    simp only [List.getElem?_map,Array.getElem?_toList,List.getElem?_eq_getElem hj,Option.map_some,Option.map_map] at h1
    exact h1
   have hxe:(es[j]).1=x:=by have:=(List.findIdx?_eq_some_iff_getElem.1 hf).2.1;simpa using this
   have hst:∀ w,(Instr.keyThatStays (.int k x) (.int k x)).run P w=.ok (.int k x) w:=fun w=>by simp [Instr.keyThatStays,Instr.sameBits,Sem.run_pure]
   simp only [Instr.mapUpdate,Sem.run_bind,run_dr_underlying ht,Result.andThen_ok,run_getObj_map hb,run_checkKey_int hk,run_findKey_int hk ho,hf,Option.bind_some,List.getElem?_eq_getElem hj,Option.map_some,
    hkey,Option.getD_some,hxe,hst,run_setObj_map hb]
  ·rw [Array.toList_modify]
   simp only [ins,hany,if_true]
   exact map_modify_ent ho.ent ho.keys x v j hf
  ·have:((arr.modify j fun e=>{ e with key:=Value.int k x,val:=v }).toList.map (·.born))=arr.toList.map (·.born):=by
    rw [Array.toList_modify]
    apply List.ext_getElem?
    intro i
    simp only [List.getElem?_map,List.getElem?_modify]
    by_cases hij:j=i
    ·subst hij;cases arr.toList[j]? <;> simp
    ·simp [hij]
   rw [this];exact ho.stamps
  ·intro e he
   rw [Array.toList_modify] at he
   obtain ⟨i,hi⟩:=List.mem_iff_getElem?.1 he
   rw [List.getElem?_modify] at hi
   cases hai:arr.toList[i]? with
   | none=>rw [hai] at hi;simp at hi
   | some e' =>
    rw [hai] at hi
    have hc:=ho.clock e' (List.mem_of_getElem? hai)
    by_cases hij:j=i
    ·simp [hij] at hi;subst hi;exact hc
    ·simp [hij] at hi;subst hi;exact hc
theorem map_eraseIdx' {α β:Type} (f:α→β) (l:List α) (j:Nat):(l.eraseIdx j).map f=(l.map f).eraseIdx j:=by
 induction l generalizing j with
 | nil=>rfl
 | cons a l ih=>cases j <;> simp [ih]
theorem eraseIdx_filter {es:List (Int×Value)} (hn:(es.map (·.1)).Nodup) (x:Int):∀ j,es.findIdx? (fun p=>p.1==x)=some j→es.eraseIdx j=del es x:=by
 induction es with
 | nil=>intro j hj;simp at hj
 | cons p es ih =>
  intro j hj
  simp only [List.map_cons,List.nodup_cons] at hn
  rw [List.findIdx?_cons] at hj
  by_cases hx:(p.1==x)=true
  ·rw [hx] at hj
   simp only [if_true,Option.some.injEq] at hj
   subst hj
   have hx':p.1=x:=by simpa using hx
   simp only [List.eraseIdx_cons_zero,del,List.filter_cons,hx,Bool.not_true,Bool.false_eq_true,if_false]
   symm
   apply List.filter_eq_self.2
   intro q hq
   simp only [Bool.not_eq_true',beq_eq_false_iff_ne]
   intro e
   exact hn.1 (List.mem_map.2 ⟨q,hq,by rw [e,hx']⟩)
  ·simp only [hx,Bool.false_eq_true,if_false] at hj
   cases hf:es.findIdx? fun p=>p.1==x with
   | none=>rw [hf] at hj;simp at hj
   | some j' =>
    rw [hf] at hj
    simp only [Option.map_some,Option.some.injEq] at hj
    subst hj
    simp only [List.eraseIdx_cons_succ,del,List.filter_cons,hx,Bool.not_false,if_true]
    rw [ih hn.2 j' hf];rfl
theorem run_delete {t ty kt et:TypeId} {m:Nat} {es:List (Int×Value)} (ht:P.underlying t=some (.map kt et)) (hk:P.underlying kt=some (.int k)) (h:MapAt k w m es) (x:Int) :
  ∃ arr clk,(Builtin.delete_ #[t,kt] ty #[.map (some m),.int k x]).run P w=.ok (.tuple #[]) (w.upd m (.map arr clk))∧MapOk k arr clk (del es x):=by
 obtain ⟨arr,clk,hb,ho⟩:=h
 cases hf:es.findIdx? fun p=>p.1==x with
 | none =>
  have hd:del es x=es:=by
   apply List.filter_eq_self.2
   rw [List.findIdx?_eq_none_iff] at hf
   intro p hp;have:=hf p hp;simpa using this
  refine ⟨arr,clk,?_,?_⟩
  ·simp [Builtin.delete_,Sem.run_bind,run_dr_underlying ht,run_getObj_map hb,run_checkKey_int hk,run_findKey_int hk ho,hf,run_setObj_map hb,Sem.run_pure]
  ·rw [hd];exact ho
 | some j =>
  have hj:j<es.length:=(List.findIdx?_eq_some_iff_getElem.1 hf).1
  have hlen:arr.size=es.length:=by have:=congrArg List.length ho.ent;simpa using this
  refine ⟨arr.eraseIdxIfInBounds j,clk,?_,?_,?_,?_,?_⟩
  ·simp [Builtin.delete_,Sem.run_bind,run_dr_underlying ht,run_getObj_map hb,run_checkKey_int hk,run_findKey_int hk ho,hf,List.getElem?_eq_getElem hj,run_setObj_map hb,Sem.run_pure]
  ·have:(arr.eraseIdxIfInBounds j).toList=arr.toList.eraseIdx j:=by
    unfold Array.eraseIdxIfInBounds
    rw [dif_pos (by omega)]
    simp
   rw [this,map_eraseIdx',ho.ent,← map_eraseIdx',eraseIdx_filter ho.keys x j hf]
  ·unfold del
   exact (ho.keys.sublist (List.Sublist.map _ List.filter_sublist))
  ·have hs:(arr.eraseIdxIfInBounds j).toList.Sublist arr.toList:=by
    unfold Array.eraseIdxIfInBounds
    rw [dif_pos (by omega)]
    simp [List.eraseIdx_sublist]
   exact ho.stamps.sublist (hs.map _)
  ·have hs:(arr.eraseIdxIfInBounds j).toList.Sublist arr.toList:=by
    unfold Array.eraseIdxIfInBounds
    rw [dif_pos (by omega)]
    simp [List.eraseIdx_sublist]
   exact fun e he=>ho.clock e (hs.subset he)
theorem run_lenm {t ty kt et:TypeId} {m:Nat} {es:List (Int×Value)} (ht:P.underlying t=some (.map kt et)) (h:MapAt k w m es) :
  (Builtin.len_ #[t] ty #[.map (some m)]).run P w=.ok (.int .i64 es.length) w:=by
 obtain ⟨arr,clk,hb,ho⟩:=h
 have hlen:arr.size=es.length:=by have:=congrArg List.length ho.ent;simpa using this
 simp [Builtin.len_,Sem.run_bind,run_dr_underlying ht,run_getObj_map hb,Sem.run_pure,goInt,hlen]
theorem run_makeMap {t:TypeId}:(Instr.makeMap t none).run P w=.ok (.map (some w.heap.size)) (w.alloc (.map #[] 0)):=by
 rfl
theorem MapOk.nil (k:IntKind):MapOk k #[] 0 []:=⟨rfl,by simp,by simp,by simp⟩
end run
theorem look_ins {α:Type} (es:List (Int×α)) (x y:Int) (v:α):mlook (ins es x v) y=if y=x then some v else mlook es y:=by
 unfold mlook ins
 split
 ·rename_i ha
  induction es with
  | nil=>simp at ha
  | cons p es ih =>
   simp only [List.map_cons,List.find?_cons]
   by_cases hp:p.1=x
   ·subst hp
    by_cases hy:y=p.1
    ·subst hy;simp
    ·have h1:(p.1==y)=false:=beq_eq_false_iff_ne.2 fun h=>hy h.symm
     simp only [BEq.rfl,if_true,h1,if_neg hy]
     by_cases ha':es.any (fun q=>q.1==p.1)=true
     ·have:=ih ha'
      rw [if_neg hy] at this
      exact this
     ·have he:(es.map fun q=>if q.1==p.1 then (p.1,v) else q)=es:=by
       conv=>rhs;rw [← List.map_id es]
       apply List.map_congr_left
       intro q hq
       have:¬ (q.1==p.1)=true:=fun h=>ha' (List.any_eq_true.2 ⟨q,hq,h⟩)
       simp [this]
      rw [he]
   ·have h0:(p.1==x)=false:=by simp [hp]
    have ha':es.any (fun q=>q.1==x)=true:=by simpa [hp] using ha
    simp only [h0,Bool.false_eq_true,if_false]
    by_cases hy:p.1=y
    ·have h1:(p.1==y)=true:=by simp [hy]
     simp only [h1]
     rw [if_neg (by rw [← hy];exact hp)]
    ·have h1:(p.1==y)=false:=by simp [hy]
     simp only [h1]
     exact ih ha'
 ·rename_i ha
  rw [List.find?_append]
  by_cases hy:y=x
  ·subst hy
   have:es.find? (fun p=>p.1==y)=none:=by
    rw [List.find?_eq_none]
    intro p hp h
    exact ha (List.any_eq_true.2 ⟨p,hp,h⟩)
   simp [this]
  ·have:(x==y)=false:=beq_eq_false_iff_ne.2 fun h=>hy h.symm
   simp [this,hy]
theorem look_del {α:Type} (es:List (Int×α)) (x y:Int):mlook (del es x) y=if y=x then none else mlook es y:=by
 unfold mlook del
 rw [List.find?_filter]
 by_cases hy:y=x
 ·subst hy
  rw [if_pos rfl]
  have:es.find? (fun a=>decide ((!(a.1==y))=true∧(a.1==y)=true))=none:=by
   rw [List.find?_eq_none];intro p _;simp
  rw [this];rfl
 ·rw [if_neg hy]
  congr 2
  funext p
  by_cases h:p.1=y
  ·have:¬ p.1=x:=by rw [h];exact hy
   simp [h,hy]
  ·simp [h]
theorem look_nil {α:Type} (x:Int):mlook ([]:List (Int×α)) x=none:=rfl
theorem length_ins {α:Type} (es:List (Int×α)) (x:Int) (v:α):(ins es x v).length=if (mlook es x).isSome then es.length else es.length+1:=by
 have:es.any (fun p=>p.1==x)=(mlook es x).isSome:=by
  unfold mlook
  rw [Option.isSome_map]
  induction es with
  | nil=>rfl
  | cons p es ih =>
   rw [List.any_cons,List.find?_cons]
   cases p.1==x <;> simp [ih]
 unfold ins
 rw [this]
 split <;> simp
def tag {α β:Type} (f:α→β) (es:List (Int×α)):List (Int×β):=es.map fun p=>(p.1,f p.2)
theorem look_tag {α β:Type} (f:α→β) (es:List (Int×α)) (x:Int):mlook (tag f es) x=(mlook es x).map f:=by
 unfold mlook tag
 rw [List.find?_map]
 simp only [Function.comp_def,Option.map_map]
theorem ins_tag {α β:Type} (f:α→β) (es:List (Int×α)) (x:Int) (v:α):ins (tag f es) x (f v)=tag f (ins es x v):=by
 unfold ins tag
 simp only [List.any_map,Function.comp_def]
 split
 ·simp only [List.map_map]
  apply List.map_congr_left
  intro p _
  simp only [Function.comp]
  split <;> rfl
 ·simp
theorem del_tag {α β:Type} (f:α→β) (es:List (Int×α)) (x:Int):del (tag f es) x=tag f (del es x):=by
 unfold del tag
 rw [List.filter_map];rfl
@[simp] theorem length_tag {α β:Type} (f:α→β) (es:List (Int×α)):(tag f es).length=es.length:=by simp [tag]
theorem keys_nodup_del {α:Type} {es:List (Int×α)} (h:(es.map (·.1)).Nodup) (x:Int):((del es x).map (·.1)).Nodup:=h.sublist (List.Sublist.map _ List.filter_sublist)
end Go.Ev
namespace Go.Ev
open Go.ChangeMaps (setBlock)
open Go
def Iter (k:IntKind) (w:World) (r m:Nat) (left:List (Int×Value)):Prop :=
 ∃ since seen c0 arr clk es,Has w r (.mapIter (some m) since seen c0)∧Has w m (.map arr clk)∧MapOk k arr clk es∧(∀ x∈arr.toList,x.born<since)∧since≤c0∧since≤clk ∧
  (leftOf arr seen).toList.map (fun e=>(e.key,e.val))=left.map fun p=>(Value.int k p.1,p.2)
def AtEnt (k:IntKind) (w:World) (r m:Nat) (x:Int) (v:Value):Prop :=
 ∃ (since:Nat) (seen:Array Nat) (clk:Nat) (arr:Array MapEntry) (e:MapEntry),Has w r (.mapIter (some m) since (seen.push e.born) clk)∧Has w m (.map arr clk)∧e∈arr.toList∧e.key=.int k x∧e.val=v∧(arr.toList.map (·.born)).Nodup
theorem Iter.keep {k:IntKind} {w w':World} {r m:Nat} {left:List (Int×Value)} {S:Nat→Prop} (h:Iter k w r m left) (hk:Keep S w w') (hr:¬ S r) (hm:¬ S m):Iter k w' r m left:=by
 obtain ⟨since,seen,c0,arr,clk,es,h1,h2,h3⟩:=h
 exact ⟨since,seen,c0,arr,clk,es,hk.has h1 hr,hk.has h2 hm,h3⟩
theorem AtEnt.keep {k:IntKind} {w w':World} {r m:Nat} {x:Int} {v:Value} {S:Nat→Prop} (h:AtEnt k w r m x v) (hk:Keep S w w') (hr:¬ S r) (hm:¬ S m):AtEnt k w' r m x v:=by
 obtain ⟨since,seen,clk,arr,e,h1,h2,h3⟩:=h
 exact ⟨since,seen,clk,arr,e,hk.has h1 hr,hk.has h2 hm,h3⟩
theorem Iter.lt {k:IntKind} {w:World} {r m:Nat} {left:List (Int×Value)} (h:Iter k w r m left):r<w.heap.size∧m<w.heap.size:=by
 obtain ⟨since,seen,c0,arr,clk,es,h1,h2,h3⟩:=h
 exact ⟨h1.lt,h2.lt⟩
theorem Iter.ne {k:IntKind} {w:World} {r m:Nat} {left:List (Int×Value)} (h:Iter k w r m left):r≠m:=by
 obtain ⟨since,seen,c0,arr,clk,es,h1,h2,h3⟩:=h
 exact h1.ne h2 (by simp)
section
variable {P:Program} {k:IntKind}
theorem run_rangeM {w:World} {t kt et:TypeId} {m:Nat} {es:List (Int×Value)} (ht:P.underlying t=some (.map kt et)) (h:MapAt k w m es) :
  ∃ w',(Instr.range t (.map (some m))).run P w=.ok (.pointer (some ⟨w.heap.size,0,none⟩)) w'∧Iter k w' w.heap.size m es∧Keep (fun _=>False) w w':=by
 obtain ⟨arr,clk,hb,ho⟩:=h
 refine ⟨_,run_range_map w t kt et m arr clk ht hb,⟨clk,#[],clk,arr,clk,es,Has.new _ _,hb.alloc,ho,ho.clock,Nat.le_refl _,Nat.le_refl _,?_⟩,Keep.new _ _ _⟩
 have:leftOf arr #[]=arr:=by simp [leftOf]
 rw [this]
 exact ho.ent
theorem setBlock_upd (w:World) (b:Nat) (x:Obj) (y:Obj) (h:Has w b y):setBlock w b x=w.upd b x:=by
 unfold setBlock World.upd
 congr 1
theorem run_entryM {w:World} {r m:Nat} {x:Int} {v:Value} (h:AtEnt k w r m x v):(Instr.entry (.pointer (some ⟨r,0,none⟩))).run P w=.ok (.tuple #[.int k x,v]) w:=by
 obtain ⟨since,seen,clk,arr,e,h1,h2,h3,h4,h5,h6⟩:=h
 rw [run_entry_at w r m since seen arr clk e h1 h2 h3 h6,h4,h5]
theorem perm_of_filter {l:List MapEntry} {e:MapEntry} (he:e∈l) (hn:(l.map (·.born)).Nodup):l.Perm (e::l.filter fun x => !(x.born==e.born)):=by
 induction l with
 | nil=>simp at he
 | cons a l ih =>
  simp only [List.map_cons,List.nodup_cons] at hn
  rcases List.mem_cons.1 he with rfl | he
  ·have:(e::l).filter (fun x => !(x.born==e.born))=l:=by
    rw [List.filter_cons]
    simp only [BEq.rfl,Bool.not_true,Bool.false_eq_true,if_false]
    apply List.filter_eq_self.2
    intro x hx
    simp only [Bool.not_eq_true',beq_eq_false_iff_ne]
    exact fun e'=>hn.1 (List.mem_map.2 ⟨x,hx,e'⟩)
   rw [this]
  ·have hne:a.born≠e.born:=fun e'=>hn.1 (List.mem_map.2 ⟨e,he,e'.symm⟩)
   have:(a::l).filter (fun x => !(x.born==e.born))=a::l.filter fun x => !(x.born==e.born):=by
    rw [List.filter_cons]
    simp [hne]
   rw [this]
   exact ((ih he hn.2).cons a).trans (List.Perm.swap e a _)
theorem run_nextM {w:World} {r m:Nat} {ty:TypeId} {left:List (Int×Value)} (h:Iter k w r m left) :
  (left=[]∧(Instr.next (.pointer (some ⟨r,0,none⟩)) false ty).run P w=.ok (.tuple #[.bool false]) w) ∨
  ∃ x v left' w',left.Perm ((x,v)::left')∧(Instr.next (.pointer (some ⟨r,0,none⟩)) false ty).run P w=.ok (.tuple #[.bool true,.int k x,v]) w'∧Iter k w' r m left'∧AtEnt k w' r m x v∧Keep (fun i=>i=r) w w':=by
 have hrm:=h.ne
 obtain ⟨since,seen,c0,arr,clk,es,h1,h2,h3,h4,h5,h6,h7⟩:=h
 rcases run_next_at (P:=P) w ty r m since c0 seen arr clk h1 h2 h4 h5 with ⟨hs,hr⟩ | ⟨e,he,w1,hw1,hr⟩
 ·left
  refine ⟨?_,hr⟩
  have:(leftOf arr seen).toList=[]:=by
   apply List.eq_nil_of_length_eq_zero
   simpa using hs
  rw [this] at h7
  cases left
  ·rfl
  ·simp at h7
 ·right
  have hea:e∈arr.toList:=by
   unfold leftOf at he
   rw [Array.toList_filter] at he
   exact (List.mem_filter.1 he).1
  have hes:seen.contains e.born=false:=by
   unfold leftOf at he
   rw [Array.toList_filter] at he
   simpa using (List.mem_filter.1 he).2
  have hkey:∃ p∈es,(Value.int k p.1,p.2)=(e.key,e.val):=by
   have:(e.key,e.val)∈arr.toList.map (fun e=>(e.key,e.val)):=List.mem_map.2 ⟨e,hea,rfl⟩
   rw [h3.ent] at this
   obtain ⟨p,hp,hpe⟩:=List.mem_map.1 this
   exact ⟨p,hp,hpe⟩
  obtain ⟨p,hp,hpe⟩:=hkey
  simp only [Prod.mk.injEq] at hpe
  have hw:Has w1 r (.mapIter (some m) since seen c0)∧Has w1 m (.map arr clk)∧Keep (fun i=>i=r) w w1:=by
   rcases hw1 with rfl | rfl
   ·exact ⟨h1,h2,Keep.refl _ _⟩
   ·exact ⟨h1,h2,⟨rfl,rfl,rfl,Nat.le_refl _,fun _ _ _=>rfl⟩⟩
  obtain ⟨g1,g2,g3⟩:=hw
  rw [setBlock_upd w1 r _ _ g1] at hr
  have hleft:(leftOf arr (seen.push e.born)).toList=(leftOf arr seen).toList.filter fun x => !(x.born==e.born):=by
   unfold leftOf
   rw [Array.toList_filter,Array.toList_filter,List.filter_filter]
   congr 1
   funext x
   simp only [Array.contains_push]
   cases hx:seen.contains x.born <;> cases hy:x.born==e.born <;> rfl
  have hnl:((leftOf arr seen).toList.map (·.born)).Nodup:=by
   unfold leftOf
   rw [Array.toList_filter]
   exact h3.stamps.sublist (List.Sublist.map _ List.filter_sublist)
  have hperm:=(perm_of_filter he hnl).map (fun e=>(e.key,e.val))
  rw [h7,List.map_cons,← hleft] at hperm
  have hall:∀ (l:List MapEntry),(∀ x∈l,x∈arr.toList)→∃ q:List (Int×Value),l.map (fun e=>(e.key,e.val))=q.map fun p=>(Value.int k p.1,p.2):=by
   intro l
   induction l with
   | nil=>exact fun _=>⟨[],rfl⟩
   | cons a l ih =>
    intro hl
    obtain ⟨q,hq⟩:=ih fun x hx=>hl x (by simp [hx])
    have:(a.key,a.val)∈arr.toList.map (fun e=>(e.key,e.val)):=List.mem_map.2 ⟨a,hl a (by simp),rfl⟩
    rw [h3.ent] at this
    obtain ⟨p,_,hpe⟩:=List.mem_map.1 this
    exact ⟨p::q,by simp only [List.map_cons,hq,hpe]⟩
  obtain ⟨q,hq⟩:=hall (leftOf arr (seen.push e.born)).toList (fun x hx=>by
   unfold leftOf at hx
   rw [Array.toList_filter] at hx
   exact (List.mem_filter.1 hx).1)
  refine ⟨p.1,p.2,q,_,?_,by rw [hr,hpe.1,hpe.2],⟨since,seen.push e.born,clk,arr,clk,es,g1.upd_same _,g2.upd (Ne.symm hrm),h3,h4,h6,h6,hq⟩,
   ⟨since,seen,clk,arr,e,g1.upd_same _,g2.upd (Ne.symm hrm),hea,hpe.1.symm,hpe.2.symm,h3.stamps⟩,g3.trans (Keep.one w1 r _)⟩
  rw [hq,← hpe.1,← hpe.2] at hperm
  have inj:∀ a b:Int×Value,(Value.int k a.1,a.2)=(Value.int k b.1,b.2)→a=b:=by
   rintro ⟨a,u⟩ ⟨b,v⟩ h
   simpa using h
  have h8:(left.map fun p=>(Value.int k p.1,p.2)).Perm ((p::q).map fun p=>(Value.int k p.1,p.2)):=hperm
  have h9:=h8.map (fun v:Value×Value=>((match v.1 with | .int _ n=>n | _=>0),v.2))
  simpa [List.map_map,Function.comp_def] using h9
end
def Own (w:World) (base:Nat) (e:TypeId) (size:Nat) (p:Option Addr) (l c:Nat) (xs:List Value):Prop:=w.ownsRow base e size (.slice p l c) l xs
theorem Own.nil (w:World) (base:Nat) (e:TypeId) (size:Nat):Own w base e size none 0 0 []:=World.ownsRow_nil _ _ _ _
theorem Own.len {w:World} {base:Nat} {e:TypeId} {size:Nat} {p:Option Addr} {l c:Nat} {xs:List Value} (h:Own w base e size p l c xs):xs.length=l*size:=h.1
theorem Own.cases {w:World} {base:Nat} {e:TypeId} {size:Nat} {p:Option Addr} {l c:Nat} {xs:List Value} (h:Own w base e size p l c xs) :
  (p=none∧l=0∧c=0∧xs=[])∨∃ b cur,p=some ⟨b,0,none⟩∧base≤b∧Has w b (.cells cur e (0,0))∧l≤c∧c≤maxLen∧cur.size=c*size∧cur.toList.take (l*size)=xs:=by
 obtain ⟨hl,h | ⟨g,cap,cur,hv,hb,hg,hle,hm,hs,ht⟩⟩:=h
 ·obtain ⟨h1,h2⟩:=h
  simp only [Value.slice.injEq] at h1
  obtain ⟨rfl,rfl,rfl⟩:=h1
  exact Or.inl ⟨rfl,rfl,rfl,List.eq_nil_of_length_eq_zero (by simpa using hl)⟩
 ·simp only [Value.slice.injEq] at hv
  obtain ⟨rfl,_,rfl⟩:=hv
  exact Or.inr ⟨g,cur,rfl,hb,hg,hle,hm,hs,ht⟩
theorem Own.mk {w:World} {base:Nat} {e:TypeId} {size b l c:Nat} {cur:Array Value} {xs:List Value} (hb:base≤b) (h:Has w b (.cells cur e (0,0))) (hle:l≤c) (hm:c≤maxLen) (hs:cur.size=c*size)
  (ht:cur.toList.take (l*size)=xs):Own w base e size (some ⟨b,0,none⟩) l c xs:=by
 refine ⟨?_,Or.inr ⟨b,c,cur,rfl,hb,h,hle,hm,hs,ht⟩⟩
 rw [← ht,List.length_take,Array.length_toList,hs]
 exact Nat.min_eq_left (Nat.mul_le_mul_right _ hle)
theorem Own.keep {w w':World} {base:Nat} {e:TypeId} {size:Nat} {p:Option Addr} {l c:Nat} {xs:List Value} {S:Nat→Prop} (h:Own w base e size p l c xs) (hk:Keep S w w') (hS:∀ k,p=some ⟨k,0,none⟩→¬ S k) :
  Own w' base e size p l c xs:=by
 rcases h.cases with ⟨rfl,rfl,rfl,rfl⟩ | ⟨b,cur,rfl,hb,hg,hle,hm,hs,ht⟩
 ·exact Own.nil _ _ _ _
 ·exact Own.mk hb (hk.has hg (hS b rfl)) hle hm hs ht
theorem Own.lt {w:World} {base:Nat} {e:TypeId} {size:Nat} {p:Option Addr} {l c:Nat} {xs:List Value} (h:Own w base e size p l c xs) {b:Nat} (hp:p=some ⟨b,0,none⟩):base≤b∧b<w.heap.size:=by
 rcases h.cases with ⟨rfl,_⟩ | ⟨b',cur,rfl,hb,hg,_⟩
 ·cases hp
 ·cases hp;exact ⟨hb,hg.lt⟩
theorem Keep.of_grown {w w':World} {row:Option Nat} (h:w.grownBy w' row):Keep (fun k=>some k=row) w w':=⟨h.os,h.tape,h.output,h.size,fun k hk hS=>h.block k hk hS⟩
theorem run_appendOwn {P:Program} {w:World} {base:Nat} {t ty e:TypeId} {i:TypeInfo} {z:Value} {size bytes:Nat} (ht:P.underlying t=some (.slice e)) (hi:P.info? e=some i) (hz:i.zero=some z)
  (hsize:i.size=size) (hby:i.bytes=bytes) (hzs:z.cells.size=size) (hsz:0<size) {p:Option Addr} {l c:Nat} {xs:List Value} (h:Own w base e size p l c xs)
  {a:Addr} {m c2:Nat} {news:List Value} (hl:news.length=m*size) (hnews:∀ j u,news[j]? = some u→w.cell? (a.add j)=some u) (h1:∀ u∈news,u.oneCell'=true)
  (hbytes:((l+m)+(l+m) / 4+192)*bytes≤281474976710656) (h63:l+m≤maxLen) (hbase:base≤w.heap.size) :
  ∃ p' c' w',(Builtin.append_ #[t,t] ty #[.slice p l c,.slice (some a) m c2]).run P w=.ok (.slice p' (l+m) c') w'∧Own w' base e size p' (l+m) c' (xs++news)∧Keep (fun k=>p=some ⟨k,0,none⟩) w w':=by
 obtain ⟨v',w',hr,ho,hg,hn⟩:=run_append_own_wide (P:=P) w base t ty e i z size bytes ht hi hz hsize hby hzs hsz (.slice p l c) l xs h a m c2 news hl hnews h1 h63 hbytes hbase
 have hk:Keep (fun k=>p=some ⟨k,0,none⟩) w w':=by
  refine (Keep.of_grown hg).mono fun k hk=>?_
  rcases h.cases with ⟨rfl,_⟩ | ⟨b',cur,rfl,_⟩
  ·simp [Value.ownBlock] at hk
  ·simp [Value.ownBlock] at hk;rw [hk]
 obtain ⟨hlen,h | ⟨g,cap,cur,hv,hb,hg,hle,hm,hs,htk⟩⟩:=id ho
 ·obtain ⟨h1,h2⟩:=h
  subst h1
  have e0:Value.slice none 0 0=.slice none (l+m) 0:=by rw [h2]
  rw [e0] at hr ho
  exact ⟨none,0,w',hr,ho,hk⟩
 ·subst hv
  exact ⟨_,cap,w',hr,ho,hk⟩
theorem Own.cell {w:World} {base:Nat} {e:TypeId} {size:Nat} {b l c:Nat} {xs:List Value} (h:Own w base e size (some ⟨b,0,none⟩) l c xs) {j:Nat} (hj:j<l*size):w.cell? ⟨b,j,none⟩=xs[j]? := by
 rcases h.cases with ⟨h,_⟩ | ⟨b',cur,hp,hb,hg,hle,hm,hs,ht⟩
 ·cases h
 ·cases hp
  rw [cell_of hg,← ht,List.getElem?_take_of_lt hj];simp
theorem length_rows {size:Nat}:∀ {rows:List (List Value)},(∀ r∈rows,r.length=size)→rows.flatten.length=rows.length*size
 | [],_=>by simp
 | r::rows,h=>by
  rw [List.flatten_cons,List.length_append,length_rows fun r hr=>h r (by simp [hr]),h r (by simp),List.length_cons,Nat.add_mul]
  omega
theorem get_rows {size:Nat}:∀ {rows:List (List Value)},(∀ r∈rows,r.length=size)→∀ {i:Nat} {r:List Value},rows[i]? = some r→∀ j,j<size→rows.flatten[i*size+j]? = r[j]?
 | [],_,i,r,hi,_,_=>by simp at hi
 | r0::rows,h,0,r,hi,j,hj=>by
  simp only [List.getElem?_cons_zero,Option.some.injEq] at hi
  subst hi
  rw [List.flatten_cons,Nat.zero_mul,Nat.zero_add,List.getElem?_append_left (by rw [h r0 (by simp)];exact hj)]
 | r0::rows,h,i+1,r,hi,j,hj=>by
  have h0:=h r0 (by simp)
  rw [List.flatten_cons,List.getElem?_append_right (by rw [h0,Nat.add_mul];omega),h0]
  have:(i+1)*size+j-size=i*size+j:=by rw [Nat.add_mul];omega
  rw [this]
  exact get_rows (fun r hr=>h r (by simp [hr])) (by simpa using hi) j hj
theorem Own.count {w:World} {base:Nat} {e:TypeId} {size:Nat} {p:Option Addr} {l c:Nat} {rows:List (List Value)} (h:Own w base e size p l c rows.flatten) (hr:∀ r∈rows,r.length=size) (hs:0<size) :
  l=rows.length:=by
 have:=h.len
 rw [length_rows hr] at this
 exact (Nat.eq_of_mul_eq_mul_right hs this).symm
theorem Own.at {w:World} {base:Nat} {e:TypeId} {size:Nat} {p:Option Addr} {l c:Nat} {rows:List (List Value)} (h:Own w base e size p l c rows.flatten) (hr:∀ r∈rows,r.length=size) (hs:0<size)
  {i:Nat} {r:List Value} (hi:rows[i]? = some r):∃ b,p=some ⟨b,0,none⟩∧∀ j,j<size→w.cell? ⟨b,i*size+j,none⟩=r[j]? := by
 have hl:=h.count hr hs
 have hlt:=(List.getElem?_eq_some_iff.1 hi).1
 rcases h.cases with ⟨rfl,rfl,rfl,h0⟩ | ⟨b,cur,rfl,hb,hg,hle,hm,hs',ht⟩
 ·omega
 ·refine ⟨b,rfl,fun j hj=>?_⟩
  have hlt2:i*size+j<l*size:=by
   have:(i+1)*size≤l*size:=Nat.mul_le_mul_right _ (by omega)
   rw [Nat.add_mul] at this;omega
  rw [h.cell hlt2,get_rows hr hi j hj]
end Go.Ev
namespace Go.Ev
open Go
theorem set_rows {size:Nat} {rows:List (List Value)} (h:∀ r∈rows,r.length=size) {i:Nat} (hi:i<rows.length) (r:List Value) :
  (rows.set i r).flatten=rows.flatten.take (i*size)++r++rows.flatten.drop (i*size+size):=by
 have h1:rows=rows.take i++rows[i]::rows.drop (i+1):=by simp
 have ht:(rows.take i).length=i:=by simp;omega
 have l1:(rows.take i).flatten.length=i*size:=by
  rw [length_rows (fun r hr=>h r (List.mem_of_mem_take hr)),ht]
 have l2:rows[i].length=size:=h _ (List.getElem_mem _)
 generalize rows.take i=A at *
 generalize rows.drop (i+1)=B at *
 generalize rows[i]=x at *
 rw [h1,List.set_append_right _ _ (by omega),ht,Nat.sub_self,List.set_cons_zero]
 simp only [List.flatten_append,List.flatten_cons]
 rw [← l1,List.take_left' rfl,← l2,← List.length_append,← List.append_assoc A.flatten x,List.drop_left' rfl]
 simp
theorem spl_take {cur:Array Value} {o n m:Nat} {r:List Value} (hr:r.length=n) (h1:o+n≤m) (h2:m≤cur.size) :
  (spl cur o r.toArray).toList.take m=(cur.toList.take m).take o++r++(cur.toList.take m).drop (o+n):=by
 unfold spl
 simp only [List.size_toArray,hr]
 have e1:(List.take o cur.toList).length=o:=by simp;omega
 rw [List.take_take,Nat.min_eq_left (by omega),List.take_append,List.take_of_length_le (by rw [List.length_append,e1,hr];omega),List.length_append,e1,hr,List.drop_take]
theorem size_spl {cur:Array Value} {o:Nat} {cs:Array Value} (h:o+cs.size≤cur.size):(spl cur o cs).size=cur.size:=by
 unfold spl
 simp only [List.size_toArray,List.length_append,List.length_take,List.length_drop,Array.length_toList]
 omega
theorem Own.set {w:World} {base:Nat} {e:TypeId} {size:Nat} {p:Option Addr} {l c:Nat} {rows:List (List Value)} (h:Own w base e size p l c rows.flatten) (hr:∀ r∈rows,r.length=size) (hs:0<size)
  {i:Nat} (hi:i<l) {r:List Value} (hl:r.length=size) (h1:∀ v∈r,oneV v=true) {K:World→Prop}
  (hK:∀ w',Own w' base e size p l c (rows.set i r).flatten→Keep (fun k=>p=some ⟨k,0,none⟩) w w'→w'.heap.size=w.heap.size→K w') :
  ∃ b,p=some ⟨b,0,none⟩∧StA size b (i*size) r.toArray w K:=by
 have hc:=h.count hr hs
 rcases h.cases with ⟨rfl,rfl,rfl,h0⟩ | ⟨b,cur,rfl,hb,hg,hle,hm,hsz,ht⟩
 ·omega
 refine ⟨b,rfl,?_⟩
 have hle2:i*size+size≤l*size:=by
  have:(i+1)*size≤l*size:=Nat.mul_le_mul_right _ hi
  rw [Nat.add_mul] at this;omega
 have hle3:l*size≤c*size:=Nat.mul_le_mul_right _ hle
 refine StA_of hg (by simpa using hl) (by omega) (by simpa using h1) ?_
 refine hK _ (Own.mk hb (hg.upd_same _) hle hm ?_ ?_) ((Keep.one w b _).mono fun k hk=>by rw [hk]) (by simp)
 ·rw [size_spl (by simp [hl];omega),hsz]
 ·rw [set_rows hr (by omega),← ht,spl_take hl hle2 (by omega)]
theorem Own.setF {w:World} {base:Nat} {e:TypeId} {size:Nat} {p:Option Addr} {l c:Nat} {rows:List (List Value)} (h:Own w base e size p l c rows.flatten) (hr:∀ r∈rows,r.length=size) (hs:0<size)
  {i:Nat} {r:List Value} (hi:rows[i]? = some r) {t:Nat} (ht:t<size) {v:Value} (h1:oneV v=true) {K:World→Prop}
  (hK:∀ w',Own w' base e size p l c (rows.set i (r.set t v)).flatten→Keep (fun k=>p=some ⟨k,0,none⟩) w w'→w'.heap.size=w.heap.size→K w') :
  ∃ b,p=some ⟨b,0,none⟩∧StV b (i*size+t) v w K:=by
 have hc:=h.count hr hs
 have hil:=(List.getElem?_eq_some_iff.1 hi)
 have hrl:r.length=size:=hr r (List.mem_of_getElem? hi)
 have hlt:=hil.1
 rcases h.cases with ⟨rfl,rfl,rfl,h0⟩ | ⟨b,cur,rfl,hb,hg,hle,hm,hsz,htk⟩
 ·omega
 refine ⟨b,rfl,?_⟩
 have hle2:i*size+size≤l*size:=by
  have:(i+1)*size≤l*size:=Nat.mul_le_mul_right _ (by omega)
  rw [Nat.add_mul] at this;omega
 have hle3:l*size≤c*size:=Nat.mul_le_mul_right _ hle
 refine StV_of hg (by omega) h1 ?_
 refine hK _ (Own.mk hb (hg.upd_same _) hle hm (by simp [hsz]) ?_) ((Keep.one w b _).mono fun k hk=>by rw [hk]) (by simp)
 rw [set_rows hr hlt,← htk]
 have hg2:∀ j,j<size→(cur.toList.take (l*size))[i*size+j]? = r[j]? := fun j hj=>by rw [htk];exact get_rows hr hi j hj
 apply List.ext_getElem?
 intro q
 have lt:(cur.toList.take (l*size)).length=l*size:=by simp;omega
 by_cases hq:q<l*size
 ·rw [List.getElem?_take_of_lt hq,Array.getElem?_toList,Array.getElem?_setIfInBounds]
  by_cases h3:q<i*size
  ·rw [if_neg (by omega),List.append_assoc,List.getElem?_append_left (by rw [List.length_take,lt];omega),List.getElem?_take_of_lt h3,List.getElem?_take_of_lt hq];simp
  ·by_cases h4:q<i*size+size
   ·rw [List.getElem?_append_left (by rw [List.length_append,List.length_take,lt,List.length_set,hrl];omega),List.getElem?_append_right (by rw [List.length_take,lt];omega),List.length_take,lt,Nat.min_eq_left (by omega),
     List.getElem?_set]
    by_cases h5:i*size+t=q
    ·rw [if_pos h5,if_pos (by omega),if_pos (by omega),if_pos (by omega)]
    ·rw [if_neg h5,if_neg (by omega),← hg2 (q-i*size) (by omega),List.getElem?_take_of_lt (by omega)]
     rw [show i*size+(q-i*size)=q by omega];simp
   ·rw [if_neg (by omega),List.getElem?_append_right (by rw [List.length_append,List.length_take,lt,List.length_set,hrl];omega),List.length_append,List.length_take,lt,List.length_set,hrl,Nat.min_eq_left (by omega),
     List.getElem?_drop,show i*size+size+(q-(i*size+size))=q by omega,List.getElem?_take_of_lt hq];simp
 ·rw [List.getElem?_eq_none (by simp;omega),List.getElem?_eq_none]
  rw [List.length_append,List.length_append,List.length_take,List.length_drop,lt,List.length_set,hrl];omega
structure Lay (α:Type) where
 size:Nat
 row:α→List Value
 len:∀ a,(row a).length=size
 one:∀ a,∀ v∈row a,oneV v=true
 pos:0<size
theorem oneCell_of {v:Value} (h:oneV v=true):v.oneCell'=true:=by cases v <;> first | rfl | (simp [oneV] at h)
section lay
variable {α:Type} (L:Lay α)
def Lay.rows (xs:List α):List Value:=xs.flatMap L.row
theorem Lay.rows_eq (xs:List α):L.rows xs=(xs.map L.row).flatten:=by unfold Lay.rows;rw [List.flatMap_def]
theorem Lay.rlen (xs:List α):∀ r∈xs.map L.row,r.length=L.size:=by
 intro r hr;obtain ⟨x,_,rfl⟩:=List.mem_map.1 hr;exact L.len x
theorem Lay.rows_len (xs:List α):(L.rows xs).length=xs.length*L.size:=by rw [L.rows_eq,length_rows (L.rlen xs),List.length_map]
theorem Lay.rows_one (xs:List α):∀ v∈L.rows xs,oneV v=true:=by
 intro v hv;obtain ⟨x,_,h⟩:=List.mem_flatMap.1 hv;exact L.one x v h
@[simp] theorem Lay.rows_nil:L.rows []=[]:=rfl
theorem Lay.rows_append (xs ys:List α):L.rows (xs++ys)=L.rows xs++L.rows ys:=by unfold Lay.rows;simp
theorem Lay.rows_one' (x:α):L.rows [x]=L.row x:=by unfold Lay.rows;simp
def OwnL (w:World) (base:Nat) (e:TypeId) (p:Option Addr) (l c:Nat) (xs:List α):Prop:=Own w base e L.size p l c (L.rows xs)
variable {L} {w:World} {base:Nat} {e:TypeId} {p:Option Addr} {l c:Nat} {xs:List α}
theorem OwnL.nil:OwnL L w base e none 0 0 []:=Own.nil _ _ _ _
theorem OwnL.length (h:OwnL L w base e p l c xs):l=xs.length:=by
 have h2:Own w base e L.size p l c (L.rows xs):=h
 rw [L.rows_eq] at h2
 simpa using h2.count (L.rlen xs) L.pos
theorem OwnL.keep {w':World} {S:Nat→Prop} (h:OwnL L w base e p l c xs) (hk:Keep S w w') (hS:∀ k,p=some ⟨k,0,none⟩→¬ S k):OwnL L w' base e p l c xs:=Own.keep h hk hS
theorem OwnL.lt (h:OwnL L w base e p l c xs) {b:Nat} (hp:p=some ⟨b,0,none⟩):base≤b∧b<w.heap.size:=Own.lt h hp
theorem OwnL.rebase {base':Nat} (h:OwnL L w base e p l c xs) (hb:base'≤base):OwnL L w base' e p l c xs:=by
 rcases Own.cases h with ⟨rfl,rfl,rfl,h0⟩ | ⟨b,cur,rfl,hb',hg,hle,hm,hs,ht⟩
 ·have:xs=[]:=List.eq_nil_of_length_eq_zero (by have:=h.length;omega)
  subst this;exact Own.nil _ _ _ _
 ·exact Own.mk (by omega) hg hle hm hs ht
theorem OwnL.cap (h:OwnL L w base e p l c xs):l≤c∧c≤maxLen:=by
 rcases Own.cases h with ⟨rfl,rfl,rfl,h0⟩ | ⟨b,cur,rfl,hb',hg,hle,hm,hs,ht⟩
 ·exact ⟨Nat.le_refl _,by simp [maxLen]⟩
 ·exact ⟨hle,hm⟩
theorem OwnL.at (h:OwnL L w base e p l c xs) {i:Nat} {x:α} (hi:xs[i]? = some x):∃ b,p=some ⟨b,0,none⟩∧∀ j,j<L.size→w.cell? ⟨b,i*L.size+j,none⟩=(L.row x)[j]? := by
 have h2:Own w base e L.size p l c (L.rows xs):=h
 rw [L.rows_eq] at h2
 exact h2.at (L.rlen xs) L.pos (i:=i) (r:=L.row x) (by simp [hi])
theorem OwnL.ldA (h:OwnL L w base e p l c xs) {i:Int} {x:α} {n:Nat} (hn:L.size=n) (h0:0≤i) (hi:xs[i.toNat]? = some x) {K:Array Value→Prop} (hK:K (L.row x).toArray):IdxS p l i n fun b o=>LdA n b o (At w) K:=by
 subst hn
 obtain ⟨b,rfl,hc⟩:=h.at hi
 have hlt:=(List.getElem?_eq_some_iff.1 hi).1
 refine ⟨b,0,rfl,h0,by have:=h.length;omega,(L.row x).toArray,by simp [L.len],?_,hK⟩
 rintro w' ⟨d,rfl⟩ j hj
 rw [Nat.zero_add]
 have:=hc j hj
 rw [show (w.dr d).cell? ⟨b,i.toNat*L.size+j,none⟩=w.cell? ⟨b,i.toNat*L.size+j,none⟩ from rfl,this]
 simp
theorem OwnL.ldF (h:OwnL L w base e p l c xs) {i:Int} {x:α} {n t:Nat} {v:Value} (hn:L.size=n) (h0:0≤i) (hi:xs[i.toNat]? = some x) (hv:(L.row x)[t]? = some v) {K:Value→Prop} (hK:K v) :
  IdxS p l i n fun b o=>LdV b (o+t) (At w) K:=by
 subst hn
 obtain ⟨b,rfl,hc⟩:=h.at hi
 have hlt:=(List.getElem?_eq_some_iff.1 hi).1
 have ht:t<L.size:=by have:=(List.getElem?_eq_some_iff.1 hv).1;rwa [L.len] at this
 exact ⟨b,0,rfl,h0,by have:=h.length;omega,LdV_at.2 ⟨v,by rw [Nat.zero_add,hc t ht,hv],hK⟩⟩
theorem OwnL.ld0 (h:OwnL L w base e p l c xs) {i:Int} {x:α} {n:Nat} {v:Value} (hn:L.size=n) (h0:0≤i) (hi:xs[i.toNat]? = some x) (hv:(L.row x)[0]? = some v) {K:Value→Prop} (hK:K v) :
  IdxS p l i n fun b o=>LdV b o (At w) K:=h.ldF hn h0 hi hv hK
theorem OwnL.cells (h:OwnL L w base e p l c xs) (hl:0<l):∃ b cur,p=some ⟨b,0,none⟩∧base≤b∧Has w b (.cells cur e (0,0))∧l*L.size≤cur.size∧cur.size=c*L.size∧cur.toList.take (l*L.size)=L.rows xs:=by
 rcases Own.cases h with ⟨rfl,rfl,rfl,h0⟩ | ⟨b,cur,rfl,hb',hg,hle,hm,hs,ht⟩
 ·omega
 ·exact ⟨b,cur,rfl,hb',hg,by rw [hs];exact Nat.mul_le_mul_right _ hle,hs,ht⟩
theorem OwnL.stA (h:OwnL L w base e p l c xs) {i:Int} {n:Nat} (hn:L.size=n) (h0:0≤i) (h1:i<l) (x:α) {cs:Array Value} (hcs:cs=(L.row x).toArray) {K:World→Prop}
  (hK:∀ w',OwnL L w' base e p l c (xs.set i.toNat x)→Keep (fun k=>p=some ⟨k,0,none⟩) w w'→w'.heap.size=w.heap.size→K w'):IdxS p l i n fun b o=>StA n b o cs w K:=by
 subst hn hcs
 have h2:Own w base e L.size p l c (L.rows xs):=h
 rw [L.rows_eq] at h2
 obtain ⟨b,hp,hst⟩:=h2.set (L.rlen xs) L.pos (i:=i.toNat) (by omega) (L.len x) (L.one x) (K:=K) fun w' ho hk hz=>hK w' (by
  unfold OwnL
  rw [L.rows_eq,List.map_set];exact ho) hk hz
 exact ⟨b,0,hp,h0,h1,by rw [Nat.zero_add];exact hst⟩
theorem OwnL.stF (h:OwnL L w base e p l c xs) {i:Int} {n t:Nat} {x y:α} {v:Value} (hn:L.size=n) (h0:0≤i) (hi:xs[i.toNat]? = some x) (ht:t<n) (hy:L.row y=(L.row x).set t v) (h1:oneV v=true) {K:World→Prop}
  (hK:∀ w',OwnL L w' base e p l c (xs.set i.toNat y)→Keep (fun k=>p=some ⟨k,0,none⟩) w w'→w'.heap.size=w.heap.size→K w'):IdxS p l i n fun b o=>StV b (o+t) v w K:=by
 subst hn
 have h2:Own w base e L.size p l c (L.rows xs):=h
 rw [L.rows_eq] at h2
 have hlt:=(List.getElem?_eq_some_iff.1 hi).1
 obtain ⟨b,hp,hst⟩:=h2.setF (L.rlen xs) L.pos (i:=i.toNat) (r:=L.row x) (by simp [hi]) ht h1 (K:=K) fun w' ho hk hz=>hK w' (by
  unfold OwnL
  rw [L.rows_eq,List.map_set,hy];exact ho) hk hz
 exact ⟨b,0,hp,h0,by have:=h.length;omega,by rw [Nat.zero_add];exact hst⟩
theorem OwnL.mk {b:Nat} {cs:Array Value} (hb:base≤b) (h:Has w b (.cells cs e (0,0))) (hm:xs.length≤maxLen) (hcs:cs.toList=L.rows xs):OwnL L w base e (some ⟨b,0,none⟩) xs.length xs.length xs:=by
 have hl:=L.rows_len xs
 refine Own.mk hb h (Nat.le_refl _) hm ?_ ?_
 ·rw [← hl,← hcs];simp
 ·rw [hcs,← hl,List.take_length]
end lay
theorem add_add' (b o j:Nat):Addr.add ⟨b,o,none⟩ j=⟨b,o+j,none⟩:=by unfold Addr.add;split <;> simp_all
section sll
variable {α:Type} (L:Lay α)
def SlL (w:World) (p:Option Addr) (l:Nat) (xs:List α):Prop:=l=xs.length∧∀ i x,xs[i]? = some x→∃ b o,p=some ⟨b,o,none⟩∧∀ j,j<L.size→w.cell? ⟨b,o+i*L.size+j,none⟩=(L.row x)[j]?
variable {L} {w:World} {base:Nat} {e:TypeId} {p:Option Addr} {l c:Nat} {xs:List α}
theorem OwnL.sl (h:OwnL L w base e p l c xs):SlL L w p l xs:=⟨h.length,fun i x hi=>by
 obtain ⟨b,hp,hc⟩:=h.at hi
 exact ⟨b,0,hp,fun j hj=>by rw [Nat.zero_add];exact hc j hj⟩⟩
theorem SlL.nil:SlL L w p 0 []:=⟨rfl,fun i x h=>by simp at h⟩
theorem cell_keep {S:Nat→Prop} {w w':World} (hk:Keep S w w') {b o:Nat} {v:Value} (h:w.cell? ⟨b,o,none⟩=some v) (hS:¬ S b):w'.cell? ⟨b,o,none⟩=some v:=by
 have hb:b<w.heap.size:=by
  unfold World.cell? at h
  cases hh:w.heap[b]? with
  | none=>simp [hh] at h
  | some x=>exact (Array.getElem?_eq_some_iff.1 hh).1
 rw [← h]
 exact World.cell?_of_block (w:=w) (hk.block b hb hS)
theorem SlL.keep {S:Nat→Prop} {w':World} (h:SlL L w p l xs) (hk:Keep S w w') (hS:∀ b o,p=some ⟨b,o,none⟩→¬ S b):SlL L w' p l xs :=
 ⟨h.1,fun i x hi=>by
  obtain ⟨b,o,rfl,hc⟩:=h.2 i x hi
  refine ⟨b,o,rfl,fun j hj=>?_⟩
  have:=hc j hj
  rw [List.getElem?_eq_getElem (by rw [L.len];exact hj)] at this ⊢
  exact cell_keep hk this (hS b o rfl)⟩
theorem SlL.keepB {S:Nat→Prop} {w':World} (h:SlL L w p l xs) (hk:Keep S w w') (hS:∀ k,k<w.heap.size→¬ S k):SlL L w' p l xs :=
 ⟨h.1,fun i x hi=>by
  obtain ⟨b,o,rfl,hc⟩:=h.2 i x hi
  refine ⟨b,o,rfl,fun j hj=>?_⟩
  have:=hc j hj
  rw [List.getElem?_eq_getElem (by rw [L.len];exact hj)] at this ⊢
  refine cell_keep hk this (hS b ?_)
  unfold World.cell? at this
  cases hh:w.heap[b]? with
  | none=>simp [hh] at this
  | some x=>exact (Array.getElem?_eq_some_iff.1 hh).1⟩
theorem SlL.ldA (h:SlL L w p l xs) {i:Int} {x:α} {n:Nat} (hn:L.size=n) (h0:0≤i) (hi:xs[i.toNat]? = some x) {K:Array Value→Prop} (hK:K (L.row x).toArray):IdxS p l i n fun b o=>LdA n b o (At w) K:=by
 subst hn
 obtain ⟨b,o,rfl,hc⟩:=h.2 _ x hi
 have hlt:=(List.getElem?_eq_some_iff.1 hi).1
 refine ⟨b,o,rfl,h0,by have:=h.1;omega,(L.row x).toArray,by simp [L.len],?_,hK⟩
 rintro w' ⟨d,rfl⟩ j hj
 rw [show (w.dr d).cell? ⟨b,o+i.toNat*L.size+j,none⟩=w.cell? ⟨b,o+i.toNat*L.size+j,none⟩ from rfl,hc j hj]
 simp
theorem SlL.ldF (h:SlL L w p l xs) {i:Int} {x:α} {n t:Nat} {v:Value} (hn:L.size=n) (h0:0≤i) (hi:xs[i.toNat]? = some x) (hv:(L.row x)[t]? = some v) {K:Value→Prop} (hK:K v) :
  IdxS p l i n fun b o=>LdV b (o+t) (At w) K:=by
 subst hn
 obtain ⟨b,o,rfl,hc⟩:=h.2 _ x hi
 have hlt:=(List.getElem?_eq_some_iff.1 hi).1
 have ht:t<L.size:=by have:=(List.getElem?_eq_some_iff.1 hv).1;rwa [L.len] at this
 exact ⟨b,o,rfl,h0,by have:=h.1;omega,LdV_at.2 ⟨v,by rw [hc t ht,hv],hK⟩⟩
theorem SlL.ld0 (h:SlL L w p l xs) {i:Int} {x:α} {n:Nat} {v:Value} (hn:L.size=n) (h0:0≤i) (hi:xs[i.toNat]? = some x) (hv:(L.row x)[0]? = some v) {K:Value→Prop} (hK:K v) :
  IdxS p l i n fun b o=>LdV b o (At w) K:=h.ldF hn h0 hi hv hK
theorem SlL.cells (h:SlL L w p l xs) (h0:0<l):∃ b o,p=some ⟨b,o,none⟩∧∀ j u,(L.rows xs)[j]? = some u→w.cell? ⟨b,o+j,none⟩=some u:=by
 obtain ⟨hl,hs⟩:=h
 obtain ⟨b,o,hp,_⟩:=hs 0 xs[0] (by simp [← hl,h0])
 refine ⟨b,o,hp,fun j u hj=>?_⟩
 have hpos:=L.pos
 have hjl:j<xs.length*L.size:=by
  have:=(List.getElem?_eq_some_iff.1 hj).1
  rwa [L.rows_len] at this
 have h2:j / L.size<xs.length:=Nat.div_lt_of_lt_mul (by rw [Nat.mul_comm];exact hjl)
 have hmod:j % L.size<L.size:=Nat.mod_lt _ hpos
 have hdm:j / L.size*L.size+j % L.size=j:=by have:=Nat.div_add_mod j L.size;rw [Nat.mul_comm] at this;exact this
 obtain ⟨b',o',hp',hc⟩:=hs (j / L.size) xs[j / L.size] (by simp [h2])
 rw [hp] at hp'
 cases hp'
 have h1:=hc (j % L.size) hmod
 have h3:=get_rows (L.rlen xs) (i:=j / L.size) (r:=L.row xs[j / L.size]) (by simp [h2]) (j % L.size) hmod
 rw [← L.rows_eq,hdm,hj] at h3
 rw [show o+j=o+j / L.size*L.size+j % L.size by omega,h1,h3]
end sll
section slt
variable {α:Type} (L:Lay α)
structure SlT (w:World) (e:TypeId) (p:Option Addr) (l c:Nat) (xs:List α):Prop where
 sl:SlL L w p l xs
 ty:∀ a,p=some a→∃ cur,Has w a.block (.cells cur e (0,0))
 cap:l≤c∧c≤maxLen
variable {L} {w w':World} {base:Nat} {e:TypeId} {p:Option Addr} {l c:Nat} {xs:List α} {S:Nat→Prop}
theorem SlT.keep (h:SlT L w e p l c xs) (hk:Keep S w w') (hS:∀ a,p=some a→¬ S a.block):SlT L w' e p l c xs :=
 ⟨h.sl.keep hk fun b o q=>hS _ q,fun a q=>by obtain ⟨cur,hc⟩:=h.ty a q;exact ⟨cur,hk.has hc (hS a q)⟩,h.cap⟩
theorem SlT.keepB (h:SlT L w e p l c xs) (hk:Keep S w w') (hS:∀ k cur,Has w k (.cells cur e (0,0))→¬ S k):SlT L w' e p l c xs :=
 h.keep hk fun a q=>by obtain ⟨cur,hc⟩:=h.ty a q;exact hS _ cur hc
theorem SlT.ldA (h:SlT L w e p l c xs) {i:Int} {x:α} {n:Nat} (hn:L.size=n) (h0:0≤i) (hi:xs[i.toNat]? = some x) {K:Array Value→Prop} (hK:K (L.row x).toArray):IdxS p l i n fun b o=>LdA n b o (At w) K:=h.sl.ldA hn h0 hi hK
theorem SlT.ld0 (h:SlT L w e p l c xs) {i:Int} {x:α} {n:Nat} {v:Value} (hn:L.size=n) (h0:0≤i) (hi:xs[i.toNat]? = some x) (hv:(L.row x)[0]? = some v) {K:Value→Prop} (hK:K v):IdxS p l i n fun b o=>LdV b o (At w) K :=
 h.sl.ld0 hn h0 hi hv hK
theorem SlT.of (h:OwnL L w base e p l c xs):SlT L w e p l c xs :=
 ⟨h.sl,fun a q=>by
  rcases Own.cases h with ⟨h0,_⟩ | ⟨b,cur,h0,_,hg,_⟩
  ·rw [h0] at q;cases q
  ·rw [h0] at q;cases q;exact ⟨cur,hg⟩,h.cap⟩
theorem SlT.len (h:SlT L w e p l c xs):l=xs.length:=h.sl.1
theorem SlL.sub (h:SlL L w p l xs) {lo hi m:Nat} (h1:lo≤hi) (h2:hi≤l) (h3:hi≤m):SlL L w (slcP L.size lo m p) (hi-lo) ((xs.take hi).drop lo):=by
 have hl:=h.1
 refine ⟨by simp;omega,fun i x hx=>?_⟩
 rw [List.getElem?_drop,List.getElem?_take] at hx
 split at hx
 ·rename_i hlt
  obtain ⟨b,o,rfl,hc⟩:=h.2 (lo+i) x hx
  refine ⟨b,o+lo*L.size,?_,fun j hj=>?_⟩
  ·unfold slcP
   rw [if_neg (by omega)]
   simp [add_add']
  ·have:=hc j hj
   rw [← this]
   congr 2
   rw [Nat.add_mul];omega
 ·cases hx
end slt
structure LayT (P:Program) {α:Type} (L:Lay α) (t e:TypeId) (bytes:Nat):Prop where
 under:P.underlying t=some (.slice e)
 info:∃ i z,P.info? e=some i∧i.zero=some z∧i.size=L.size∧i.bytes=bytes∧z.cells.size=L.size
section app
variable {P:Program} {α:Type} {L:Lay α} {t e:TypeId} {bytes:Nat} {w:World} {base:Nat} {p:Option Addr} {l c:Nat} {xs:List α}
theorem add_add (b o j:Nat):Addr.add ⟨b,o,none⟩ j=⟨b,o+j,none⟩:=by unfold Addr.add;split <;> simp_all
theorem run_appendL (T:LayT P L t e bytes) (h:OwnL L w base e p l c xs) {p2:Option Addr} {l2 c2:Nat} {ys:List α} (h2:SlL L w p2 l2 ys) {ty:TypeId}
  (hl:((l+l2)+(l+l2) / 4+192)*bytes≤281474976710656) (hm:l+l2≤maxLen) (hbase:base≤w.heap.size) :
  ∃ p' c' w',(Builtin.append_ #[t,t] ty #[.slice p l c,.slice p2 l2 c2]).run P w=.ok (.slice p' (l+l2) c') w'∧OwnL L w' base e p' (l+l2) c' (xs++ys)∧Keep (fun k=>p=some ⟨k,0,none⟩) w w':=by
 obtain ⟨i,z,hi,hz,hsize,hby,hzs⟩:=T.info
 by_cases h0:0<l2
 ·obtain ⟨b,o,rfl,hc⟩:=h2.cells h0
  have:=run_appendOwn (P:=P) (t:=t) (ty:=ty) (i:=i) (z:=z) (size:=L.size) (bytes:=bytes) T.under hi hz hsize hby hzs L.pos h (a:=⟨b,o,none⟩) (m:=l2) (c2:=c2) (news:=L.rows ys)
   (by rw [L.rows_len,h2.1]) (fun j u hu=>by rw [add_add];exact hc j u hu) (fun u hu=>oneCell_of (L.rows_one ys u hu)) hl hm hbase
  obtain ⟨p',c',w',hr,ho,hk⟩:=this
  exact ⟨p',c',w',hr,by unfold OwnL;rw [L.rows_append];exact ho,hk⟩
 ·have hz0:l2=0:=by omega
  subst hz0
  have hys:ys=[]:=List.eq_nil_of_length_eq_zero h2.1.symm
  subst hys
  refine ⟨p,c,w,?_,by simpa using h,Keep.refl _ _⟩
  have hsrc:∀ q:Option Addr,Src P i.size t (.slice q 0 c2) 0 [] w:=by
   intro q
   cases q with
   | none=>exact Src.ofNil (e':=e) w T.under c2
   | some a=>exact Src.ofSlice (e':=e) w T.under a 0 c2 [] (by simp) (fun j u h=>by simp at h) (fun u h=>by simp at h)
  exact run_append_nothing w _ _ _ _ i T.under hi p l c h.cap.1 _ (hsrc p2)
end app
theorem copy_of {P:Program} {w:World} {n:Nat} {t:TypeId} {cs:Array Value} {K:Nat→World→Prop} (hz:(zc P t).size=n) (hc:cs.size=n) (h1:∀ v∈cs.toList,oneV v=true)
  (hK:∀ w',Has w' w.heap.size (.cells cs t (0,0))→Keep (fun _=>False) w w'→w'.heap.size=w.heap.size+1→K w.heap.size w') :
  Alc t (zc P t) w fun b w=>StA n b 0 cs w fun w=>K b w:=by
 rw [Alc_iff]
 refine StA_all (Has.new _ _) hc hz h1 ?_
 exact hK _ ((Has.new _ _).upd_same _) ((Keep.new _ _ _).upd (by omega) _) (by simp)
end Go.Ev
namespace Go.Ev
open Go
section
variable {P:Program} {α:Type} {L:Lay α} {t e:TypeId} {bytes:Nat} {w:World} {base:Nat} {p:Option Addr} {l c:Nat} {xs:List α}
theorem run_appendF (T:LayT P L t e bytes) (h:OwnL L w base e p l c xs) {p2:Option Addr} {l2 c2:Nat} {ys:List α} (h2:SlL L w p2 l2 ys) {ty:TypeId}
  (hl:((l+l2)+(l+l2) / 4+192)*bytes≤281474976710656) (hm:l+l2≤maxLen) (hbase:base≤w.heap.size) :
  ∃ p' c' w',(Builtin.append_ #[t,t] ty #[.slice p l c,.slice p2 l2 c2]).run P w=.ok (.slice p' (l+l2) c') w'∧OwnL L w' base e p' (l+l2) c' (xs++ys)∧Keep (fun k=>p=some ⟨k,0,none⟩) w w'∧(p'=p∨p'=some ⟨w.heap.size,0,none⟩):=by
 obtain ⟨p',c',w',hr,ho,hk⟩:=run_appendL (P:=P) (ty:=ty) (c2:=c2) T h h2 hl hm hbase
 refine ⟨p',c',w',hr,ho,hk,?_⟩
 obtain ⟨i,z,hi,hz,hsize,hby,hzs⟩:=T.info
 have h63:maxLen≤9223372036854775807:=by decide
 have hpos:=L.pos
 by_cases h0:0<l2
 ·obtain ⟨b,o,rfl,hc⟩:=h2.cells h0
  have hnl:(L.rows ys).length=l2*i.size:=by rw [L.rows_len,h2.1,hsize]
  have hnews:∀ j v,(L.rows ys)[j]? = some v→w.cell? ((⟨b,o,none⟩:Addr).add j)=some v:=fun j u hu=>by rw [add_add];exact hc j u hu
  have h1:∀ u∈L.rows ys,u.oneCell'=true:=fun u hu=>oneCell_of (L.rows_one ys u hu)
  rcases Own.cases h with ⟨rfl,rfl,rfl,_⟩ | ⟨g,cur,rfl,hbg,hg,hle,hcm,hs,ht⟩
  ·right
   have hb:=hl
   rw [Nat.zero_add] at hb
   have h48:l2*i.bytes≤281474976710656:=by
    rw [hby]
    exact Nat.le_trans (Nat.mul_le_mul_right _ (by omega)) hb
   have:=run_append_nil (P:=P) w t ty e i z T.under hi hz ⟨b,o,none⟩ l2 c2 (L.rows ys) hnl hnews h0 (by omega) h48
   rw [this] at hr
   simp only [Result.ok.injEq,Value.slice.injEq] at hr
   exact hr.1.1.symm
  ·by_cases hroom:l+l2≤c
   ·left
    obtain ⟨w2,hr2,_⟩:=run_append_fits (P:=P) w base t ty e i L.size T.under hi hsize g l c (L.rows xs) h ⟨b,o,none⟩ l2 c2 (L.rows ys) (by rw [← hsize];exact hnl) hnews h1 hroom
    rw [hr2] at hr
    simp only [Result.ok.injEq,Value.slice.injEq] at hr
    exact hr.1.1.symm
   ·right
    have hfit:Builtin.nextslicecap (l+l2) c*i.bytes≤281474976710656:=growslice_fits_wide (by omega) (by rw [hby];exact hl)
    have holds:∀ j v,(L.rows xs)[j]? = some v→w.cell? ((⟨g,0,none⟩:Addr).add j)=some v:=by
     intro j v hv
     rw [add_add,Nat.zero_add,cell_of hg]
     have hj:=(List.getElem?_eq_some_iff.1 hv).1
     rw [← ht] at hv hj
     rw [List.length_take] at hj
     rw [List.getElem?_take_of_lt (by omega),Array.getElem?_toList] at hv
     exact hv
    have hlx:=OwnL.length h
    have:=run_append_grow (P:=P) w t ty e i z T.under hi hz ⟨g,0,none⟩ l c (L.rows xs) (by rw [L.rows_len,← hlx,hsize]) holds ⟨b,o,none⟩ l2 c2 (L.rows ys) hnl hnews (by omega) (by omega) hfit
    rw [this] at hr
    simp only [Result.ok.injEq,Value.slice.injEq] at hr
    exact hr.1.1.symm
 ·have hz0:l2=0:=by omega
  subst hz0
  have hsrc:Src P i.size t (.slice p2 0 c2) 0 [] w:=by
   cases p2 with
   | none=>exact Src.ofNil (e':=e) w T.under c2
   | some a=>exact Src.ofSlice (e':=e) w T.under a 0 c2 [] (by simp) (fun j u h=>by simp at h) (fun u h=>by simp at h)
  have:=run_append_nothing (P:=P) w t t ty e i T.under hi p l c (OwnL.cap h).1 _ hsrc
  rw [this] at hr
  simp only [Result.ok.injEq,Value.slice.injEq] at hr
  exact Or.inl hr.1.1.symm
end
end Go.Ev
namespace Go.Proofs
open Go Go.Ev
theorem zD:Tryz.prog.follows .mixedOrders=true:=by kernel_rfl
end Go.Proofs
namespace Go.Proofs
open Go.Ev
set_option maxRecDepth 100000
def F_sum_step (c:Int) (w:World) (R:Value→World→Prop):Prop :=
 LoopC (σ:=Int×Int×Unit) (fun _ s1 w K1=>Cb (decide (s1.2.1<8)) (Cb (ibits .and .u32 s1.1 1==1) (Req (0≤(1:Int)) (K1 (ibits .xor .u32 (ishr .u32 s1.1 1)
 3988292384,(IntKind.wrap .i64 (s1.2.1+1),())) w)) (Req (0≤(1:Int)) (K1 (ishr .u32 s1.1 1,(IntKind.wrap .i64 (s1.2.1+1),())) w))) (Ret [] (R (.int .u32 s1.1)
 w))) (c,(0,())) w
theorem C_sum_step {c:Int} {w:World} {R:Value→World→Prop} (h:F_sum_step c w R):zB Tryz.prog 271 #[.int .u32 c] w R:=by
 exact zE (args:=[.int .u32 c]) (mkAnn [(2,[(0,(.int .u32)),(3,(.int .i64))])] [] [] [] []) zD Tryz.func271 rfl rfl (by kernel_rfl) h
def F_sum_More (crc:Int) (datap:Option Addr) (datal:Nat) (datac:Nat) (w:World) (R:Value→World→Prop):Prop :=
 LoopC (σ:=Int×Int×Unit) (fun _ s1 w K1=>Cb (decide (s1.2.1<((datal:Nat):Int))) (IdxS datap datal s1.2.1 1 fun b o=>LdV b o (At w) fun v=>OpI .u8 v fun n
 => zB Tryz.prog 271 #[.int .u32 (ibits .xor .u32 s1.1 (IntKind.wrap .u32 n))] w fun v1 w=>OpI .u32 v1 fun n1=>K1 (n1,(IntKind.wrap .i64 (s1.2.1+1),())) w) (Ret
 [] (R (.int .u32 (ibits .xor .u32 (cond (IntKind.signed .u32) (-1) (IntKind.max .u32)) s1.1)) w))) (ibits .xor .u32 (cond (IntKind.signed .u32) (-1) (IntKind.max .u32))
 crc,(0,())) w
theorem C_sum_More {crc:Int} {datap:Option Addr} {datal:Nat} {datac:Nat} {w:World} {R:Value→World→Prop} (h:F_sum_More crc datap datal datac w R):zB Tryz.prog 245 #[.int .u32 crc,.slice datap datal datac] w R:=by
 exact zE (args:=[.int .u32 crc,.slice datap datal datac]) (mkAnn [(3,[(5,(.int .u32)),(12,(.int .i64))])] [] [] [] []) zD Tryz.func245 rfl rfl (by kernel_rfl) h
def F_sum_Crc (datap:Option Addr) (datal:Nat) (datac:Nat) (w:World) (R:Value→World→Prop):Prop :=
 zB Tryz.prog 245 #[.int .u32 0,.slice datap datal datac] w fun v w=>OpI .u32 v fun n=>Ret [] (R (.int .u32 n) w)
theorem C_sum_Crc {datap:Option Addr} {datal:Nat} {datac:Nat} {w:World} {R:Value→World→Prop} (h:F_sum_Crc datap datal datac w R):zB Tryz.prog 193 #[.slice datap datal datac] w R:=by
 exact zE (args:=[.slice datap datal datac]) (mkAnn [] [] [] [] []) zD Tryz.func193 rfl rfl (by kernel_rfl) h
def F_sum_Seal (at_:Int) (s:Array Value) (w:World) (R:Value→World→Prop):Prop :=
 Alc 37 s w fun b w=>Alc 86 (zc Tryz.prog 86) w fun b1 w=>Alc 285 (zc Tryz.prog 285) w fun b2 w=>LoopC (σ:=Int×Unit) (fun _ s1 w K1=>Cb (decide (s1.1<8)) (Req
 (0≤IntKind.wrap .i64 (56-(IntKind.wrap .i64 (8*s1.1)))) (Req (0≤s1.1∧s1.1<24) (StV b2 (0+Int.toNat s1.1*1) (.int .u8 (IntKind.wrap .u8 (ishr .i64 at_
 (IntKind.wrap .i64 (56-(IntKind.wrap .i64 (8*s1.1))))))) w fun w=>K1 (IntKind.wrap .i64 (s1.1+1),()) w))) (Dr1 w fun w=>Slc 24 24 (some 8) none none fun l h m
 => Slc 16 16 none none none fun l1 h1 m1=>DoV Tryz.prog (Builtin.copy_ #[22,22] 3 #[.slice (slcP 1 l m (some ⟨b2,0,none⟩)) (h-l) (m-l),.slice (slcP 1 l1 m1 (some
 ⟨b,0,none⟩)) (h1-l1) (m1-l1)]) w fun v w=>OpI .i64 v fun n=>Dr1 w fun w=>LdA 16 b 0 (At w) fun cs=>Slc 24 24 none none none fun l2 h2 m2=>CallS Tryz.prog
 193 #[.slice (slcP 1 l2 m2 (some ⟨b2,0,none⟩)) (h2-l2) (m2-l2)] w fun v1=>OpI .u32 v1 fun n1=>DoQ Tryz.prog (Instr.build 86 #[(0,.agg cs),(1,.int .u32 n1)])
 (At w) fun v2=>OpA 17 v2 fun cs1=>StA 17 b1 0 cs1 w fun w=>LdA 17 b1 0 (At w) fun cs2=>Ret [] (R (.agg cs2) w))) (0,()) w
theorem C_sum_Seal {at_:Int} {s:Array Value} {w:World} {R:Value→World→Prop} (h:F_sum_Seal at_ s w R):zB Tryz.prog 116 #[.int .i64 at_,.agg s] w R:=by
 exact zE (args:=[.int .i64 at_,.agg s]) (mkAnn [(3,[(7,(.int .i64))])] [] [] [] []) zD Tryz.func116 rfl rfl (by kernel_rfl) h
def F_sum_Good (at_:Int) (c:Array Value) (w:World) (R:Value→World→Prop):Prop :=
 Alc 86 c w fun b w=>HeldR w fun S w=>LdA 16 b 0 (At w) fun cs=>LdA 17 b 0 S fun cs1=>zB Tryz.prog 116 #[.int .i64 at_,.agg cs] w fun v w=>OpA 17 v fun cs2 =>
 Hld (S w) (EqB Tryz.prog .eql 86 (.tmp 8) (.tmp 9) (.agg cs2:Value) (.agg cs1:Value) (At w) fun g=>Ret [] (R (.bool g) w))
theorem C_sum_Good {at_:Int} {c:Array Value} {w:World} {R:Value→World→Prop} (h:F_sum_Good at_ c w R):zB Tryz.prog 176 #[.int .i64 at_,.agg c] w R:=by
 exact zE (args:=[.int .i64 at_,.agg c]) (mkAnn [] [] [] [] [8]) zD Tryz.func176 rfl rfl (by kernel_rfl) h
end Go.Proofs
namespace Go.Ev
open Go
inductive CK where
 | int (k:IntKind) | bool
 deriving DecidableEq
def CK.ok:CK→Value→Prop
 | .int k,v=>∃ n,v=.int k n∧k.min≤n∧n≤k.max
 | .bool,v=>∃ b,v=.bool b
def litOf:Value→Lit
 | .int k n=>.int k n
 | .bool b=>.bool b
 | _=>.bool false
def Fits:List CK→List Value→Prop
 | [],[]=>True
 | k::ks,v::vs=>k.ok v∧Fits ks vs
 | _,_=>False
theorem Fits.length:∀ {ks:List CK} {vs:List Value},Fits ks vs→vs.length=ks.length
 | [],[],_=>rfl
 | _::_,_::_,h=>by simp [Fits.length h.2]
 | [],_::_,h=>h.elim
 | _::_,[],h=>h.elim
theorem Fits.append:∀ {ks ls:List CK} {vs us:List Value},Fits ks vs→Fits ls us→Fits (ks++ls) (vs++us)
 | [],_,[],_,_,h=>h
 | _::_,_,_::_,_,h,h'=>⟨h.1,Fits.append h.2 h'⟩
 | [],_,_::_,_,h,_=>h.elim
 | _::_,_,[],_,h,_=>h.elim
theorem Fits.split:∀ {ks ls:List CK} {vs:List Value},Fits (ks++ls) vs→Fits ks (vs.take ks.length)∧Fits ls (vs.drop ks.length)
 | [],ls,vs,h=>⟨by simp [Fits],by simpa using h⟩
 | _::ks,ls,v::vs,h=>by
  obtain ⟨h1,h2⟩:=Fits.split (ks:=ks) (ls:=ls) h.2
  exact ⟨⟨h.1,h1⟩,h2⟩
 | _::_,_,[],h=>h.elim
theorem litOf_inj:∀ {ks:List CK} {vs us:List Value},Fits ks vs→Fits ks us→vs.map litOf=us.map litOf→vs=us
 | [],[],[],_,_,_=>rfl
 | k::ks,v::vs,u::us,h,h',he=>by
  simp only [List.map_cons,List.cons.injEq] at he
  have hr:=litOf_inj h.2 h'.2 he.2
  have:v=u:=by
   have h1:=h.1;have h2:=h'.1
   cases k with
   | int k =>
    obtain ⟨n,rfl,_⟩:=h1
    obtain ⟨m,rfl,_⟩:=h2
    have:=he.1
    simp only [litOf,Lit.int.injEq,true_and] at this
    rw [this]
   | bool =>
    obtain ⟨n,rfl⟩:=h1
    obtain ⟨m,rfl⟩:=h2
    have:=he.1
    simp only [litOf,Lit.bool.injEq] at this
    rw [this]
  rw [this,hr]
 | [],_::_,_,h,_,_=>h.elim
 | _::_,[],_,h,_,_=>h.elim
 | [],[],_::_,_,h,_=>h.elim
 | _::_,_::_,[],_,h,_=>h.elim
def flat (P:Program):Nat→TypeId→Option (List CK)
 | 0,_=>none
 | d+1,t =>
  match P.underlying t with
  | some .bool=>some [.bool]
  | some (.int k)=>some [.int k]
  | some (.array n e)=>(flat P d e).bind fun ks=>if ks.length=P.cellsOf e∧P.cellsOf t=n*ks.length then some (List.replicate n ks).flatten else none
  | some (.struct fs) => if fs.all (·.name != "_") = true then (go (flat P d) fs.toList 0).bind fun ks => if ks.length = P.cellsOf t then some ks else none else none
  | _=>none
 where go (f:TypeId→Option (List CK)):List Field→Nat→Option (List CK)
  | [],_=>some []
  | g::gs,off=>(f g.type).bind fun ks=>if g.offset=off∧ks.length=P.cellsOf g.type then (go f gs (off+ks.length)).map (ks++·) else none
section
variable {P:Program}
theorem keyLits_flat:∀ {d:Nat} {t:TypeId} {ks:List CK} {cs:List Value},flat P d t=some ks→Fits ks cs→P.keyLits d t cs=some (cs.map litOf)
 | 0,_,_,_,h,_=>by simp [flat] at h
 | d+1,t,ks,cs,h,hf=>by
  unfold flat at h
  unfold Program.keyLits
  cases hu:P.underlying t with
  | none=>simp [hu] at h
  | some kd =>
   simp only [hu] at h
   cases kd
   case bool =>
    simp only [Option.some.injEq] at h
    subst h
    match cs,hf with
    | [v],⟨⟨b,hb⟩,_⟩=>subst hb;rfl
   case int k =>
    simp only [Option.some.injEq] at h
    subst h
    match cs,hf with
    | [v],⟨⟨n,hn,h1,h2⟩,_⟩=>subst hn;simp [Lit.wf,h1,h2,litOf]
   case array n e =>
    simp only [Option.bind_eq_some_iff] at h
    obtain ⟨ks',he,h⟩:=h
    split at h
    ·rename_i hc
     simp only [Option.some.injEq] at h
     subst h
     obtain ⟨hc1,hc2⟩:=hc
     have hl:=hf.length
     have key:∀ (n a:Nat) (cs:List Value),Fits (List.replicate n ks').flatten (cs.drop (a*ks'.length))→((List.range' a n).mapM fun i=>P.keyLits d e ((cs.drop (i*P.cellsOf e)).take (P.cellsOf e))).map List.flatten=some ((cs.drop (a*ks'.length)).map litOf):=by
      intro n
      induction n with
      | zero =>
       intro a cs h
       match hcs:cs.drop (a*ks'.length),h with
       | [],_=>simp
      | succ n ih =>
       intro a cs h
       rw [List.replicate_succ,List.flatten_cons] at h
       obtain ⟨h1,h2⟩:=h.split
       rw [List.drop_drop] at h2
       have e1:a*ks'.length+ks'.length=(a+1)*ks'.length:=by rw [Nat.add_mul,Nat.one_mul]
       rw [e1] at h2
       have ih':=ih (a+1) cs h2
       rw [List.range'_succ,List.mapM_cons,← hc1,keyLits_flat he h1]
       rw [← hc1] at ih'
       simp only [bind,Option.bind_some,pure]
       cases hm:(List.range' (a+1) n).mapM fun i=>P.keyLits d e ((cs.drop (i*ks'.length)).take ks'.length) with
       | none=>rw [hm] at ih';simp at ih'
       | some ls =>
        rw [hm] at ih'
        simp only [Option.map_some,Option.some.injEq] at ih'
        simp only [Option.bind_some,Option.map_some,List.flatten_cons,ih',← List.map_append,← e1,← List.drop_drop,List.take_append_drop]
     have:=key n 0 cs (by simpa using hf)
     rw [← List.range_eq_range'] at this
     simp only [Nat.zero_mul,List.drop_zero] at this
     exact (if_pos (by rw [hl,hc2];simp)).trans this
    ·cases h
   case struct fs =>
    replace h : (if fs.all (fun g => g.name != "_") = true then (flat.go P (flat P d) fs.toList 0).bind (fun ks => if ks.length = P.cellsOf t then some ks else none) else none) = some ks := h
    by_cases hn : fs.all (fun g => g.name != "_") = true
    ·rw [if_pos hn] at h
     simp only [Option.bind_eq_some_iff] at h
     obtain ⟨ks',hg,h⟩:=h
     split at h
     ·rename_i hc
      simp only [Option.some.injEq] at h
      subst h
      have hl:=hf.length
      have key:∀ (fs:List Field) (off:Nat) (ks:List CK) (cs:List Value),flat.go P (flat P d) fs off=some ks→Fits ks (cs.drop off) →
        (fs.mapM fun f=>P.keyLits d f.type ((cs.drop f.offset).take (P.cellsOf f.type))).map List.flatten=some ((cs.drop off).map litOf):=by
       intro fs
       induction fs with
       | nil =>
        intro off ks cs h hf
        simp only [flat.go,Option.some.injEq] at h
        subst h
        match hcs:cs.drop off,hf with
        | [],_=>simp
       | cons f fs ih =>
        intro off ks cs h hf
        simp only [flat.go,Option.bind_eq_some_iff] at h
        obtain ⟨kf,hk,h⟩:=h
        split at h
        ·rename_i hc
         obtain ⟨hc1,hc2⟩:=hc
         simp only [Option.map_eq_some_iff] at h
         obtain ⟨kr,hr,rfl⟩:=h
         obtain ⟨h1,h2⟩:=hf.split
         rw [List.drop_drop] at h2
         have ih':=ih _ _ cs hr h2
         rw [List.mapM_cons,hc1,← hc2,keyLits_flat hk h1]
         simp only [bind,Option.bind_some,pure]
         cases hm:fs.mapM fun f=>P.keyLits d f.type ((cs.drop f.offset).take (P.cellsOf f.type)) with
         | none=>rw [hm] at ih';simp at ih'
         | some ls =>
          rw [hm] at ih'
          simp only [Option.map_some,Option.some.injEq] at ih'
          simp only [Option.bind_some,Option.map_some,List.flatten_cons,ih',← List.map_append,← List.drop_drop,List.take_append_drop]
        ·cases h
      have:=key fs.toList 0 ks' cs hg (by simpa using hf)
      simp only [List.drop_zero] at this
      exact (if_pos ⟨by rw [hl,hc],hn⟩).trans this
     ·cases h
    ·rw [if_neg hn] at h;cases h
   all_goals (simp at h;done)
theorem EqB_flat {t:TypeId} {ks:List CK} {xs ys:Array Value} {x y:Operand} {C:World→Prop} {K:Bool→Prop} (hk:P.keyTypeAt 9 t=true) (hf:flat P 9 t=some ks)
  (hg:P.eqGuardType P.depth t=false) (hu:(match P.underlying t with | some (.array _ _) | some (.struct _)=>true | _=>false)=true) (hc:P.cellsOf t=ks.length)
  (hx:Fits ks xs.toList) (hy:Fits ks ys.toList) (hK:∀ r:Bool,(r=true ↔ xs=ys)→K r):EqB P .eql t x y (.agg xs) (.agg ys) C K:=by
 have fm:∀ zs:Array Value,Fits ks zs.toList→(Value.agg zs).formed P t=true:=by
  intro zs hz
  have:=hz.length
  unfold Value.formed
  split at hu <;> simp_all
 have h:=fun w=>run_equalIn_deep (P:=P) 9991 9 t hk w 9 9 (.agg xs) (.agg ys) _ _ (fm _ hx) (fm _ hy) (keyLits_flat hf hx) (keyLits_flat hf hy)
 have hb:∀ r:Bool,(r=true ↔ xs.toList.map litOf=ys.toList.map litOf) ↔ (r=true ↔ xs=ys):=by
  intro r
  have:xs.toList.map litOf=ys.toList.map litOf ↔ xs=ys:=⟨fun e=>Array.toList_inj.1 (litOf_inj hx hy e),fun e=>by rw [e]⟩
  rw [this]
 by_cases e:xs=ys
 ·refine ⟨true,fun w _=>?_,hK _ (by simp [e])⟩
  obtain ⟨r,hr,hi⟩:=h w
  have:r=true:=((hb r).1 hi).2 e
  subst this
  simp only [eqGuard,Sem.run_bind,run_program,hg,Bool.not_false,if_true,Result.andThen_ok,binOp,Op.equal,Op.maxDepth]
  simp [Sem.run_bind,Sem.run_pure,run_program,hg,hr,Op.equal,Op.maxDepth]
 ·refine ⟨false,fun w _=>?_,hK _ (by simp [e])⟩
  obtain ⟨r,hr,hi⟩:=h w
  have:r=false:=by
   cases r
   ·rfl
   ·exact absurd (((hb true).1 hi).1 rfl) e
  subst this
  simp only [eqGuard,Sem.run_bind,run_program,hg,Bool.not_false,if_true,Result.andThen_ok,binOp,Op.equal,Op.maxDepth]
  simp [Sem.run_bind,Sem.run_pure,run_program,hg,hr,Op.equal,Op.maxDepth]
theorem EqB_flat_ne {t:TypeId} {ks:List CK} {xs ys:Array Value} {x y:Operand} {C:World→Prop} {K:Bool→Prop} (hk:P.keyTypeAt 9 t=true) (hf:flat P 9 t=some ks)
  (hg:P.eqGuardType P.depth t=false) (hu:(match P.underlying t with | some (.array _ _) | some (.struct _)=>true | _=>false)=true) (hc:P.cellsOf t=ks.length)
  (hx:Fits ks xs.toList) (hy:Fits ks ys.toList) (hK:∀ r:Bool,(r=true ↔ xs≠ys)→K r):EqB P .neq t x y (.agg xs) (.agg ys) C K:=by
 have fm:∀ zs:Array Value,Fits ks zs.toList→(Value.agg zs).formed P t=true:=by
  intro zs hz
  have:=hz.length
  unfold Value.formed
  split at hu <;> simp_all
 have h:=fun w=>run_equalIn_deep (P:=P) 9991 9 t hk w 9 9 (.agg xs) (.agg ys) _ _ (fm _ hx) (fm _ hy) (keyLits_flat hf hx) (keyLits_flat hf hy)
 have hb:∀ r:Bool,(r=true ↔ xs.toList.map litOf=ys.toList.map litOf) ↔ (r=true ↔ xs=ys):=by
  intro r
  have:xs.toList.map litOf=ys.toList.map litOf ↔ xs=ys:=⟨fun e=>Array.toList_inj.1 (litOf_inj hx hy e),fun e=>by rw [e]⟩
  rw [this]
 by_cases e:xs=ys
 ·refine ⟨false,fun w _=>?_,hK _ (by simp [e])⟩
  obtain ⟨r,hr,hi⟩:=h w
  have:r=true:=((hb r).1 hi).2 e
  subst this
  simp only [eqGuard,Sem.run_bind,run_program,hg,Bool.not_false,if_true,Result.andThen_ok,binOp,Op.equal,Op.maxDepth]
  simp [Sem.run_bind,Sem.run_pure,run_program,hg,hr,Op.equal,Op.maxDepth]
 ·refine ⟨true,fun w _=>?_,hK _ (by simp [e])⟩
  obtain ⟨r,hr,hi⟩:=h w
  have:r=false:=by
   cases r
   ·rfl
   ·exact absurd (((hb true).1 hi).1 rfl) e
  subst this
  simp only [eqGuard,Sem.run_bind,run_program,hg,Bool.not_false,if_true,Result.andThen_ok,binOp,Op.equal,Op.maxDepth]
  simp [Sem.run_bind,Sem.run_pure,run_program,hg,hr,Op.equal,Op.maxDepth]
end
end Go.Ev
namespace Go.Proofs
open Go Go.Ev
set_option maxRecDepth 100000
abbrev Sec:=Fin 16→Int
def sec (l:List Int):Sec:=fun i=>(l[i.val]?).getD 0
def secV (f:Sec):Array Value :=
 #[.int .u8 (f 0),.int .u8 (f 1),.int .u8 (f 2),.int .u8 (f 3),.int .u8 (f 4),.int .u8 (f 5),.int .u8 (f 6),.int .u8 (f 7),
  .int .u8 (f 8),.int .u8 (f 9),.int .u8 (f 10),.int .u8 (f 11),.int .u8 (f 12),.int .u8 (f 13),.int .u8 (f 14),.int .u8 (f 15)]
@[simp] theorem size_secV (f:Sec):(secV f).size=16:=rfl
def SecOk (f:Sec):Prop:=∀ i,0≤f i∧f i≤255
theorem secV_inj {f g:Sec} (h:secV f=secV g):f=g:=by
 simp only [secV,Array.mk.injEq,List.cons.injEq,Value.int.injEq,true_and,and_true] at h
 obtain ⟨h0,h1,h2,h3,h4,h5,h6,h7,h8,h9,h10,h11,h12,h13,h14,h15⟩:=h
 funext i
 match i with
 | ⟨0,_⟩=>exact h0
 | ⟨1,_⟩=>exact h1
 | ⟨2,_⟩=>exact h2
 | ⟨3,_⟩=>exact h3
 | ⟨4,_⟩=>exact h4
 | ⟨5,_⟩=>exact h5
 | ⟨6,_⟩=>exact h6
 | ⟨7,_⟩=>exact h7
 | ⟨8,_⟩=>exact h8
 | ⟨9,_⟩=>exact h9
 | ⟨10,_⟩=>exact h10
 | ⟨11,_⟩=>exact h11
 | ⟨12,_⟩=>exact h12
 | ⟨13,_⟩=>exact h13
 | ⟨14,_⟩=>exact h14
 | ⟨15,_⟩=>exact h15
 | ⟨n+16,hn⟩=>exact absurd hn (by omega)
theorem one_secV (f:Sec):∀ v∈(secV f).toList,oneV v=true:=by
 intro v hv
 simp only [secV,List.mem_cons,List.not_mem_nil,or_false] at hv
 rcases hv with rfl | rfl | rfl | rfl | rfl | rfl | rfl | rfl | rfl | rfl | rfl | rfl | rfl | rfl | rfl | rfl <;> rfl
theorem fits_secV {f:Sec} (h:SecOk f):Fits (List.replicate 16 (.int .u8)) (secV f).toList:=by
 have k:∀ i,CK.ok (.int .u8) (.int .u8 (f i)):=fun i=>⟨_,rfl,by have:=h i;exact this.1,by have:=h i;exact this.2⟩
 exact ⟨k 0,k 1,k 2,k 3,k 4,k 5,k 6,k 7,k 8,k 9,k 10,k 11,k 12,k 13,k 14,k 15,trivial⟩
theorem sec_ok {l:List Int} (h:∀ x∈l,0≤x∧x≤255):SecOk (sec l):=by
 intro i
 unfold sec
 cases hl:l[i.val]? with
 | none=>simp
 | some x=>exact h x (List.mem_of_getElem? hl)
theorem EqB_sec {x y:Operand} {f g:Sec} {C:World→Prop} {K:Bool→Prop} (hf:SecOk f) (hg:SecOk g) (hK:∀ r:Bool,(r=true ↔ f=g)→K r) :
  EqB Tryz.prog .eql 37 x y (.agg (secV f)) (.agg (secV g)) C K :=
 EqB_flat (ks:=List.replicate 16 (.int .u8)) (by kernel_rfl) (by kernel_rfl) (by kernel_rfl) (by kernel_rfl) (by kernel_rfl) (fits_secV hf) (fits_secV hg)
  fun r hr=>hK r (hr.trans ⟨secV_inj,fun e=>by rw [e]⟩)
theorem EqB_sec_ne {x y:Operand} {f g:Sec} {C:World→Prop} {K:Bool→Prop} (hf:SecOk f) (hg:SecOk g) (hK:∀ r:Bool,(r=true ↔ f≠g)→K r) :
  EqB Tryz.prog .neq 37 x y (.agg (secV f)) (.agg (secV g)) C K :=
 EqB_flat_ne (ks:=List.replicate 16 (.int .u8)) (by kernel_rfl) (by kernel_rfl) (by kernel_rfl) (by kernel_rfl) (by kernel_rfl) (fits_secV hf) (fits_secV hg)
  fun r hr=>hK r (hr.trans ⟨fun h e=>h (by rw [e]),fun h e=>h (secV_inj e)⟩)
theorem madeCells_one (z:Value) (n:Nat):madeCells #[z] n=ofF n fun _=>z:=by
 unfold madeCells ofF
 apply Array.ext_getElem?
 intro i
 by_cases hi:i<n <;> simp [Nat.mod_one,hi]
theorem zc_sec:zc Tryz.prog 37=secV (sec []):=by kernel_rfl
theorem bld_sec0 (w:World):(Instr.build 37 #[]).run Tryz.prog w=.ok (.agg (secV (sec []))) w:=run_build _ _ _ _ (by kernel_rfl)
theorem bld_sec1 (a:Int) (w:World):(Instr.build 37 #[(0,.int .u8 a)]).run Tryz.prog w=.ok (.agg (secV (sec [a]))) w:=run_build _ _ _ _ (by kernel_rfl)
end Go.Proofs
namespace Go.Proofs
open Go Go.Ev
set_option maxRecDepth 100000
def byLay:Lay Int:=⟨1,fun y=>[.int .u8 y],fun _=>rfl,fun y v hv=>by rw [List.mem_singleton.1 hv];rfl,by decide⟩
theorem getD_at {α:Type} {xs:List α} {i:Nat} (hi:i<xs.length) (d:α):xs[((i:Nat):Int).toNat]? = some (xs.getD i d):=by
 rw [Int.toNat_natCast,List.getD_eq_getElem?_getD,List.getElem?_eq_getElem hi];rfl
def bitS (c:Int):Int:=if (ibits .and .u32 c 1==1)=true then ibits .xor .u32 (ishr .u32 c 1) 3988292384 else ishr .u32 c 1
def itS:Nat→Int→Int
 | 0,c=>c
 | n+1,c=>itS n (bitS c)
def stepS (c:Int):Int:=itS 8 c
def allS:Int:=cond (IntKind.signed .u32) (-1) (IntKind.max .u32)
def foldS (c:Int) (l:List Int):Int:=l.foldl (fun c b=>stepS (ibits .xor .u32 c (IntKind.wrap .u32 b))) c
def crcS (l:List Int):Int:=ibits .xor .u32 allS (foldS (ibits .xor .u32 allS 0) l)
def By (xs:List Int):Prop:=∀ x∈xs,0≤x∧x≤255
theorem byLayT:LayT Tryz.prog byLay 22 5 1:=⟨by kernel_rfl,⟨(Tryz.prog.info? 5).get (by kernel_rfl),((Tryz.prog.info? 5).get (by kernel_rfl)).zero.get (by kernel_rfl),by kernel_rfl,by kernel_rfl,by kernel_rfl,by kernel_rfl,by kernel_rfl⟩⟩
theorem by_rows (xs:List Int):byLay.rows xs=xs.map fun y=>Value.int .u8 y:=by
 unfold Lay.rows
 induction xs with
 | nil=>rfl
 | cons x xs ih=>rw [List.flatMap_cons,ih];rfl
theorem take_succ_getD {l:List Int} {j:Nat} (hj:j<l.length):l.take (j+1)=l.take j++[l.getD j 0]:=by
 rw [List.take_add_one,List.getD_eq_getElem?_getD,List.getElem?_eq_getElem hj];rfl
theorem CallS_of {P:Program} {f:FuncId} {args:Array Value} {w:World} {V:Value} {K:Value→Prop} (h:zB P f args w fun v w'=>v=V∧w'=w) (hK:K V):CallS P f args w K :=
 ⟨V,Calls.mono h fun e w' ⟨v,he,hv,hw⟩=>⟨by rw [he,hv],hw⟩,hK⟩
theorem alc_fresh {w:World} {t:TypeId} {cs:Array Value} {K:Nat→World→Prop} (hK:∀ w',Has w' w.heap.size (.cells cs t (0,0))→Keep (fun _=>False) w w'→w'.heap.size=w.heap.size+1→K w.heap.size w'):Alc t cs w fun b w=>K b w:=by
 rw [Alc_iff]
 exact hK _ (Has.new _ _) (Keep.new _ _ _) (by simp)
section calls
variable {w:World} {p:Option Addr} {l c:Nat} {xs:List Int} {R:Value→World→Prop}
theorem s_step {x:Int} (hK:R (.int .u32 (stepS x)) w):zB Tryz.prog 271 #[.int .u32 x] w R:=by
 apply C_sum_step
 unfold F_sum_step
 refine LoopC_of (σ:=Int×Int×Unit) (fun st w'=>w'=w∧∃ j:Nat,st.2.1=j∧j≤8∧itS (8-j) st.1=stepS x) (fun st _=>(8-st.2.1).toNat) ⟨rfl,0,rfl,by omega,rfl⟩ ?_
 rintro _ ⟨y,i1,u⟩ w1 ⟨rfl,j,hj,hjl,hy⟩
 simp only at hj hy ⊢
 subst hj
 refine Cb_of (fun hc=>?_) (fun hc=>?_)
 ·have hj:j<8:=by simp only [decide_eq_true_eq] at hc;omega
  have ew:IntKind.wrap .i64 ((j:Int)+1)=((j+1:Nat):Int):=by rw [wrapI (by omega) (by omega)];omega
  rw [ew]
  have e:itS (8-j) y=itS (8-(j+1)) (bitS y):=by
   have:8-j=(8-(j+1))+1:=by omega
   rw [this];rfl
  rw [e] at hy
  unfold bitS at hy
  refine Cb_of (fun hb=>?_) (fun hb=>?_)
  ·rw [if_pos hb] at hy
   exact ⟨by decide,_,by omega,⟨by trivial,j+1,rfl,hj,hy⟩,rfl⟩
  ·rw [if_neg (by rw [hb];simp)] at hy
   exact ⟨by decide,_,by omega,⟨by trivial,j+1,rfl,hj,hy⟩,rfl⟩
 ·have hj:j=8:=by simp only [decide_eq_false_iff_not] at hc;omega
  subst hj
  refine Ret_nil.2 ?_
  have hy:y=stepS x:=hy
  rw [hy];exact hK
theorem s_More {crc:Int} (h:SlL byLay w p l xs) (hl:l≤1000000000) (hK:R (.int .u32 (ibits .xor .u32 allS (foldS (ibits .xor .u32 allS crc) xs))) w):zB Tryz.prog 245 #[.int .u32 crc,.slice p l c] w R:=by
 apply C_sum_More
 unfold F_sum_More
 have hlen:=h.1
 refine LoopC_of (σ:=Int×Int×Unit) (fun st w'=>w'=w∧∃ j:Nat,st.2.1=j∧j≤l∧st.1=foldS (ibits .xor .u32 allS crc) (xs.take j)) (fun st _=>(l-st.2.1).toNat) ⟨rfl,0,rfl,by omega,rfl⟩ ?_
 rintro _ ⟨y,i1,u⟩ w1 ⟨rfl,j,hj,hjl,hy⟩
 simp only at hj hy ⊢
 subst hj hy
 refine Cb_of (fun hc=>?_) (fun hc=>?_)
 ·have hj:j<l:=by simp only [decide_eq_true_eq] at hc;omega
  have ew:IntKind.wrap .i64 ((j:Int)+1)=((j+1:Nat):Int):=by rw [wrapI (by omega) (by omega)];omega
  rw [ew]
  refine h.ld0 rfl (by omega) (getD_at (xs:=xs) (by omega) 0) (v:=.int .u8 (xs.getD j 0)) rfl ?_
  refine zA.2 ?_
  refine s_step ?_
  refine zA.2 ?_
  refine ⟨_,by omega,⟨by trivial,j+1,rfl,hj,?_⟩,rfl⟩
  rw [take_succ_getD (by omega)]
  unfold foldS
  rw [List.foldl_append];rfl
 ·have hj:j=l:=by simp only [decide_eq_false_iff_not] at hc;omega
  subst hj
  refine Ret_nil.2 ?_
  rw [List.take_of_length_le (by omega)]
  exact hK
theorem s_Crc (h:SlL byLay w p l xs) (hl:l≤1000000000) (hK:R (.int .u32 (crcS xs)) w):zB Tryz.prog 193 #[.slice p l c] w R:=by
 apply C_sum_Crc
 unfold F_sum_Crc
 refine s_More h hl ?_
 exact zA.2 (Ret_nil.2 hK)
end calls
theorem Slc_from {n cap lo:Nat} {K:Nat→Nat→Nat→Prop} (h1:lo≤n) (h2:n≤cap) (hK:K lo n cap):Slc n cap (some (lo:Int)) none none K:=by
 refine ⟨?_,?_,?_,?_,?_⟩
 ·show (0:Int)≤(lo:Int);omega
 ·show (lo:Int)≤(n:Int);omega
 ·show (n:Int)≤(cap:Int);omega
 ·show (cap:Int)≤(cap:Int);omega
 ·show K (Int.toNat (lo:Int)) (Int.toNat (n:Int)) (Int.toNat (cap:Int))
  rw [Int.toNat_natCast,Int.toNat_natCast,Int.toNat_natCast];exact hK
theorem Slc_hiN {n cap hi:Nat} {K:Nat→Nat→Nat→Prop} (h1:hi≤cap) (hK:K 0 hi cap):Slc n cap none (some (hi:Int)) none K:=by
 refine ⟨by decide,(show (0:Int)≤(hi:Int) by omega),?_,?_,?_⟩
 ·show (hi:Int)≤(cap:Int);omega
 ·show (cap:Int)≤(cap:Int);omega
 ·show K (Int.toNat 0) (Int.toNat (hi:Int)) (Int.toNat (cap:Int))
  rw [Int.toNat_natCast,Int.toNat_natCast];exact hK
theorem Slc_all {n cap:Nat} {K:Nat→Nat→Nat→Prop} (h1:n≤cap) (hK:K 0 n cap):Slc n cap none none none K:=by
 refine ⟨by decide,(show (0:Int)≤(n:Int) by omega),?_,?_,?_⟩
 ·show (n:Int)≤(cap:Int);omega
 ·show (cap:Int)≤(cap:Int);omega
 ·show K (Int.toNat 0) (Int.toNat (n:Int)) (Int.toNat (cap:Int))
  rw [Int.toNat_natCast,Int.toNat_natCast];exact hK
theorem SlL.ldSd {α:Type} {L:Lay α} {S:World→Prop} {w0:World} {p:Option Addr} {l:Nat} {xs:List α} (h0:S w0) (h:∀ w',S w'→SlL L w' p l xs) {i:Int} {x:α} {n:Nat} {v:Value} (hn:L.size=n) (hi0:0≤i) (hi:xs[i.toNat]? = some x)
  (hv:(L.row x)[0]? = some v) {K:Value→Prop} (hK:K v):IdxS p l i n fun b o=>LdV b o S K:=by
 subst hn
 obtain ⟨b,o,hp,_⟩:=(h w0 h0).2 _ x hi
 have hlt:=(List.getElem?_eq_some_iff.1 hi).1
 have hl:=(h w0 h0).1
 refine ⟨b,o,hp,hi0,by omega,v,?_,hK⟩
 intro w' hw
 obtain ⟨b',o',hp',hc⟩:=(h w' hw).2 _ x hi
 rw [hp] at hp'
 cases hp'
 have:=hc 0 L.pos
 rw [Nat.add_zero] at this
 rw [this,hv]
section copies
variable {w:World} {base:Nat} {p:Option Addr} {l c:Nat} {xs:List Int}
def secB (f:Sec):List Int:=[f 0,f 1,f 2,f 3,f 4,f 5,f 6,f 7,f 8,f 9,f 10,f 11,f 12,f 13,f 14,f 15]
theorem own_copy {e:TypeId} {g:Nat} (ho:OwnL byLay w base e (some ⟨g,0,none⟩) l c xs) {a:Addr} {ds:List Int} (hd:∀ j x,ds[j]? = some x→w.cell? (a.add j)=some (.int .u8 x)) {lo n:Nat} (hn:ds.length=n) (hlo:lo+n≤l) (dCap sCap:Nat) :
  ∃ w',(Builtin.copy_ #[22,22] 3 #[.slice (some ⟨g,lo,none⟩) n dCap,.slice (some a) n sCap]).run Tryz.prog w=.ok (.int .i64 n) w'∧OwnL byLay w' base e (some ⟨g,0,none⟩) l c (xs.take lo++ds++xs.drop (lo+n))∧Keep (fun k=>k=g) w w':=by
 rcases Own.cases ho with ⟨h0,_⟩ | ⟨b',cur,h0,hb,hg,hle,hm,hs,ht⟩
 ·cases h0
 cases h0
 have hbl:byLay.size=1:=rfl
 rw [hbl,Nat.mul_one] at hs ht
 have hlen:(ds.map fun x=>Value.int .u8 x).length=n:=by simpa using hn
 have hsrc:∀ j v,(ds.map fun x=>Value.int .u8 x)[j]? = some v→w.cell? (a.add j)=some v:=by
  intro j v hv
  rw [List.getElem?_map] at hv
  cases hx:ds[j]? with
  | none=>rw [hx] at hv;cases hv
  | some x=>rw [hx] at hv;cases hv;exact hd j x hx
 have hr:=run_copy_row (P:=Tryz.prog) w 22 22 3 5 g lo n dCap a n sCap cur e (ds.map fun x=>Value.int .u8 x) (by kernel_rfl) (by kernel_rfl) hg (by rw [hlen];simp) hsrc (by rw [hlen];omega) (fun v hv=>by obtain ⟨x,_,rfl⟩:=List.mem_map.1 hv;rfl)
 rw [hlen] at hr
 refine ⟨_,hr,?_,?_⟩
 ·refine Own.mk (cur:=(cur.toList.take lo++(ds.map fun x=>Value.int .u8 x)++cur.toList.drop (lo+n)).toArray) hb (setRow_heap w g cur _ e _ hg) hle hm ?_ ?_
  ·simp only [List.size_toArray,List.length_append,List.length_take,List.length_drop,Array.length_toList,hlen,hbl]
   omega
  ·rw [hbl,Nat.mul_one]
   have:=spl_take (cur:=cur) (o:=lo) (n:=n) (m:=l) (r:=ds.map fun x=>Value.int .u8 x) hlen hlo (by omega)
   unfold spl at this
   simp only [List.size_toArray,hlen] at this
   rw [this,ht,by_rows,by_rows]
   simp
 ·exact ⟨rfl,rfl,rfl,by simp,fun k _ hk=>setRow_other w g k _ (fun e=>hk e)⟩
end copies
end Go.Proofs
namespace Go.Proofs
open Go.Ev
set_option maxRecDepth 100000
def F_bytes_Equal (ap:Option Addr) (al:Nat) (ac:Nat) (bp:Option Addr) (bl:Nat) (bc:Nat) (w:World) (R:Value→World→Prop):Prop :=
 DoQ Tryz.prog (convert 22 9 (.slice ap al ac)) (At w) fun v=>OpT v fun s=>DoQ Tryz.prog (convert 22 9 (.slice bp bl bc)) (At w) fun v1=>OpT v1 fun s1=>EqB
 Tryz.prog .eql 9 (.tmp 6) (.tmp 8) (.string s:Value) (.string s1:Value) (At w) fun g=>Ret [] (R (.bool g) w)
theorem C_bytes_Equal {ap:Option Addr} {al:Nat} {ac:Nat} {bp:Option Addr} {bl:Nat} {bc:Nat} {w:World} {R:Value→World→Prop} (h:F_bytes_Equal ap al ac bp bl bc w R):zB Tryz.prog 253 #[.slice ap al ac,.slice bp bl bc] w R:=by
 exact zE (args:=[.slice ap al ac,.slice bp bl bc]) (mkAnn [] [] [] [] []) zD Tryz.func253 rfl rfl (by kernel_rfl) h
def F_codec_number (bp:Option Addr) (bl:Nat) (bc:Nat) (n:Int) (w:World) (R:Value→World→Prop):Prop :=
 LoopC (σ:=Int×Unit) (fun _ s1 w K1=>Cb (decide (s1.1<((bl:Nat):Int))) (Req (0≤IntKind.wrap .i64 (8*s1.1)) (IdxS bp bl (IntKind.wrap .i64 ((IntKind.wrap
 .i64 (((bl:Nat):Int)-1))-s1.1)) 1 fun b o=>StV b o (.int .u8 (IntKind.wrap .u8 (ishr .u64 n (IntKind.wrap .i64 (8*s1.1))))) w fun w=>K1 (IntKind.wrap .i64
 (s1.1+1),()) w)) (Ret [] (R (.tuple #[]) w))) (0,()) w
theorem C_codec_number {bp:Option Addr} {bl:Nat} {bc:Nat} {n:Int} {w:World} {R:Value→World→Prop} (h:F_codec_number bp bl bc n w R):zB Tryz.prog 263 #[.slice bp bl bc,.int .u64 n] w R:=by
 exact zE (args:=[.slice bp bl bc,.int .u64 n]) (mkAnn [(1,[(7,(.int .i64))])] [] [] [] []) zD Tryz.func263 rfl rfl (by kernel_rfl) h
def F_codec_read (bp:Option Addr) (bl:Nat) (bc:Nat) (w:World) (R:Value→World→Prop):Prop :=
 LoopC (σ:=Int×Int×Unit) (fun _ s1 w K1=>Cb (decide (s1.2.1<((bl:Nat):Int))) (IdxS bp bl s1.2.1 1 fun b o=>LdV b o (At w) fun v=>OpI .u8 v fun n=>Req (0
 ≤ (8:Int)) (K1 (ibits .or .u64 (ishl .u64 s1.1 8) (IntKind.wrap .u64 n),(IntKind.wrap .i64 (s1.2.1+1),())) w)) (Ret [] (R (.int .u64 s1.1) w))) (0,(0,())) w
theorem C_codec_read {bp:Option Addr} {bl:Nat} {bc:Nat} {w:World} {R:Value→World→Prop} (h:F_codec_read bp bl bc w R):zB Tryz.prog 252 #[.slice bp bl bc] w R:=by
 exact zE (args:=[.slice bp bl bc]) (mkAnn [(3,[(3,(.int .u64)),(8,(.int .i64))])] [] [] [] []) zD Tryz.func252 rfl rfl (by kernel_rfl) h
def F_codec_seal (bp:Option Addr) (bl:Nat) (bc:Nat) (w:World) (R:Value→World→Prop):Prop :=
 Alc 378 (zc Tryz.prog 378) w fun b w=>HeldR w fun S w=>Slc 4 4 none none none fun l h m=>zB Tryz.prog 193 #[.slice bp bl bc] w fun v w=>OpI .u32 v fun n=>Hld
 (S w) (zB Tryz.prog 263 #[.slice (slcP 1 l m (some ⟨b,0,none⟩)) (h-l) (m-l),.int .u64 (IntKind.wrap .u64 n)] w fun v1 w=>Hld (S w) (Slc 4 4 none none none fun
 l1 h1 m1=>DoV Tryz.prog (Builtin.append_ #[22,22] 22 #[.slice bp bl bc,.slice (slcP 1 l1 m1 (some ⟨b,0,none⟩)) (h1-l1) (m1-l1)]) w fun v2 w=>OpS v2 fun p l2 c
 => Ret [] (R (.slice p l2 c) w)))
theorem C_codec_seal {bp:Option Addr} {bl:Nat} {bc:Nat} {w:World} {R:Value→World→Prop} (h:F_codec_seal bp bl bc w R):zB Tryz.prog 264 #[.slice bp bl bc] w R:=by
 exact zE (args:=[.slice bp bl bc]) (mkAnn [] [] [] [] [8]) zD Tryz.func264 rfl rfl (by kernel_rfl) h
def F_codec_Pack (r:Array Value) (w:World) (R:Value→World→Prop):Prop :=
 Alc 246 r w fun b w=>LdV b 0 (At w) fun v=>OpI .i64 v fun n=>Cb (decide (n<1)) (Ret [] (R (.tuple #[.slice none 0 0,.int .i64 2]) w)) (LdV b 0 (At w) fun v1 =>
 OpI .i64 v1 fun n1=>Cb (decide (n1>6)) (Ret [] (R (.tuple #[.slice none 0 0,.int .i64 2]) w)) (LdV b 2 (At w) fun v2=>OpI .i64 v2 fun n2=>Cb (decide (n2<0))
 (Ret [] (R (.tuple #[.slice none 0 0,.int .i64 2]) w)) (LdV b 2 (At w) fun v3=>OpI .i64 v3 fun n3=>Cb (decide (n3>2147483647)) (Ret [] (R (.tuple #[.slice none 0 0,
 .int .i64 2]) w)) (DoV Tryz.prog (Instr.makeSlice 22 (.int .i64 33) (.int .i64 37)) w fun v4 w=>OpS v4 fun p l c=>LdV b 0 (At w) fun v5=>OpI .i64 v5 fun n4=>IdxS p
 l 0 1 fun b1 o=>StV b1 o (.int .u8 (IntKind.wrap .u8 n4)) w fun w=>HeldR w fun S w=>Slc l c (some 1) (some 9) none fun l1 h m=>LdV b 1 (At w) fun v6=>OpI .u64 v6
 fun n5=>zB Tryz.prog 263 #[.slice (slcP 1 l1 m p) (h-l1) (m-l1),.int .u64 n5] w fun v7 w=>Hld (S w) (HeldR w fun S w=>Slc l c (some 9) (some 17) none fun l2
 h1 m1=>LdV b 2 S fun v8=>OpI .i64 v8 fun n6=>zB Tryz.prog 263 #[.slice (slcP 1 l2 m1 p) (h1-l2) (m1-l2),.int .u64 (IntKind.wrap .u64 n6)] w fun v9 w=>Hld
 (S w) (Dr1 w fun w=>Slc l c (some 17) none none fun l3 h2 m2=>Slc 16 16 none none none fun l4 h3 m3=>DoV Tryz.prog (Builtin.copy_ #[22,22] 3 #[.slice (slcP 1 l3 m2
 p) (h2-l3) (m2-l3),.slice (slcP 1 l4 m3 (some ⟨b,3,none⟩)) (h3-l4) (m3-l4)]) w fun v10 w=>OpI .i64 v10 fun n7=>zB Tryz.prog 264 #[.slice p l c] w fun v11
 w=>OpS v11 fun p1 l5 c1=>Ret [] (R (.tuple #[.slice p1 l5 c1,.int .i64 0]) w)))))))
theorem C_codec_Pack {r:Array Value} {w:World} {R:Value→World→Prop} (h:F_codec_Pack r w R):zB Tryz.prog 230 #[.agg r] w R:=by
 exact zE (args:=[.agg r]) (mkAnn [] [] [] [] [33,39]) zD Tryz.func230 rfl rfl (by kernel_rfl) h
def F_codec_Unpack (bp:Option Addr) (bl:Nat) (bc:Nat) (w:World) (R:Value→World→Prop):Prop :=
 Alc 246 (zc Tryz.prog 246) w fun b w=>Cb (decide (((bl:Nat):Int)<37)) (DoQ Tryz.prog (Instr.build 246 #[]) (At w) fun v=>OpA 19 v fun cs=>StA 19 b 0 cs w fun w
 => LdA 19 b 0 (At w) fun cs1=>Ret [] (R (.tuple #[.agg cs1,.int .i64 1]) w)) (HeldR w fun S w=>IdxS bp bl 0 1 fun b1 o=>LdV b1 o S fun v1=>OpI .u8 v1 fun n=>Slc
 bl bc (some 1) (some 9) none fun l h m=>Slc bl bc (some 9) (some 17) none fun l1 h1 m1=>Slc bl bc (some 17) (some 33) none fun l2 h2 m2=>SlArr (slcP 1 l2 m2 bp) (h2
 - l2) 16 fun b2 o1=>LdA 16 b2 o1 S fun cs2=>(zB Tryz.prog 252 #[.slice (slcP 1 l m bp) (h-l) (m-l)] w fun v2 w=>OpI .u64 v2 fun n1=>Hld (S w) ((zB
 Tryz.prog 252 #[.slice (slcP 1 l1 m1 bp) (h1-l1) (m1-l1)] w fun v3 w=>OpI .u64 v3 fun n2=>Hld (S w) (DoQ Tryz.prog (Instr.build 246 #[(0,.int .i64 (IntKind.wrap
 .i64 n)),(1,.int .u64 n1),(2,.int .i64 (IntKind.wrap .i64 n2)),(3,.agg cs2)]) S fun v4=>OpA 19 v4 fun cs3=>Alc 246 (zc Tryz.prog 246) w fun b3 w=>Hld (S w)
 (StA 19 b3 0 cs3 w fun w=>Hld (S w) (LdA 19 b3 0 (At w) fun cs4=>zB Tryz.prog 230 #[.agg cs4] w fun v5 w=>T2 v5 fun v6 v7=>OpS v6 fun p l3 c=>OpI .i64 v7 fun
 n3=>Cb (n3 !=0) (DoQ Tryz.prog (Instr.build 246 #[]) (At w) fun v8=>OpA 19 v8 fun cs5=>StA 19 b 0 cs5 w fun w=>LdA 19 b 0 (At w) fun cs6=>Ret [] (R (.tuple
 #[.agg cs6,.int .i64 7]) w)) (Slc bl bc none (some 37) none fun l4 h3 m3=>zB Tryz.prog 253 #[.slice p l3 c,.slice (slcP 1 l4 m3 bp) (h3-l4) (m3-l4)] w fun v9 w
 => OpB v9 fun g=>Cb (!g) (DoQ Tryz.prog (Instr.build 246 #[]) (At w) fun v10=>OpA 19 v10 fun cs7=>StA 19 b 0 cs7 w fun w=>LdA 19 b 0 (At w) fun cs8=>Ret [] (R
 (.tuple #[.agg cs8,.int .i64 7]) w)) (LdA 19 b3 0 (At w) fun cs9=>StA 19 b 0 cs9 w fun w=>LdA 19 b 0 (At w) fun cs10=>Ret [] (R (.tuple #[.agg cs10,.int .i64 0])
 w)))))))∧(Alc 246 (zc Tryz.prog 246) w fun b4 w=>Hld (S w) (zB Tryz.prog 252 #[.slice (slcP 1 l1 m1 bp) (h1-l1) (m1-l1)] w fun v11 w=>OpI .u64 v11 fun n4 =>
 Hld (S w) (DoQ Tryz.prog (Instr.build 246 #[(0,.int .i64 (IntKind.wrap .i64 n)),(1,.int .u64 n1),(2,.int .i64 (IntKind.wrap .i64 n4)),(3,.agg cs2)]) (At w) fun v12
 => OpA 19 v12 fun cs11=>StA 19 b4 0 cs11 w fun w=>Hld (S w) (LdA 19 b4 0 (At w) fun cs12=>zB Tryz.prog 230 #[.agg cs12] w fun v13 w=>T2 v13 fun v14 v15=>OpS
 v14 fun p1 l5 c1=>OpI .i64 v15 fun n5=>Cb (n5 !=0) (DoQ Tryz.prog (Instr.build 246 #[]) (At w) fun v16=>OpA 19 v16 fun cs13=>StA 19 b 0 cs13 w fun w=>LdA 19 b 0
 (At w) fun cs14=>Ret [] (R (.tuple #[.agg cs14,.int .i64 7]) w)) (Slc bl bc none (some 37) none fun l6 h4 m4=>zB Tryz.prog 253 #[.slice p1 l5 c1,.slice (slcP 1 l6
 m4 bp) (h4-l6) (m4-l6)] w fun v17 w=>OpB v17 fun g1=>Cb (!g1) (DoQ Tryz.prog (Instr.build 246 #[]) (At w) fun v18=>OpA 19 v18 fun cs15=>StA 19 b 0 cs15 w fun w
 => LdA 19 b 0 (At w) fun cs16=>Ret [] (R (.tuple #[.agg cs16,.int .i64 7]) w)) (LdA 19 b4 0 (At w) fun cs17=>StA 19 b 0 cs17 w fun w=>LdA 19 b 0 (At w) fun cs18 =>
 Ret [] (R (.tuple #[.agg cs18,.int .i64 0]) w)))))))))∧(Alc 246 (zc Tryz.prog 246) w fun b5 w=>Hld (S w) (zB Tryz.prog 252 #[.slice (slcP 1 l m bp) (h-l) (m -
 l)] w fun v19 w=>OpI .u64 v19 fun n6=>Hld (S w) (zB Tryz.prog 252 #[.slice (slcP 1 l1 m1 bp) (h1-l1) (m1-l1)] w fun v20 w=>OpI .u64 v20 fun n7=>Hld (S w)
 (DoQ Tryz.prog (Instr.build 246 #[(0,.int .i64 (IntKind.wrap .i64 n)),(1,.int .u64 n6),(2,.int .i64 (IntKind.wrap .i64 n7)),(3,.agg cs2)]) (At w) fun v21=>OpA 19
 v21 fun cs19=>StA 19 b5 0 cs19 w fun w=>Hld (S w) (LdA 19 b5 0 (At w) fun cs20=>zB Tryz.prog 230 #[.agg cs20] w fun v22 w=>T2 v22 fun v23 v24=>OpS v23 fun p2
 l7 c2=>OpI .i64 v24 fun n8=>Cb (n8 !=0) (DoQ Tryz.prog (Instr.build 246 #[]) (At w) fun v25=>OpA 19 v25 fun cs21=>StA 19 b 0 cs21 w fun w=>LdA 19 b 0 (At w) fun
 cs22=>Ret [] (R (.tuple #[.agg cs22,.int .i64 7]) w)) (Slc bl bc none (some 37) none fun l8 h5 m5=>zB Tryz.prog 253 #[.slice p2 l7 c2,.slice (slcP 1 l8 m5 bp) (h5
 - l8) (m5-l8)] w fun v26 w=>OpB v26 fun g2=>Cb (!g2) (DoQ Tryz.prog (Instr.build 246 #[]) (At w) fun v27=>OpA 19 v27 fun cs23=>StA 19 b 0 cs23 w fun w=>LdA 19
 b 0 (At w) fun cs24=>Ret [] (R (.tuple #[.agg cs24,.int .i64 7]) w)) (LdA 19 b5 0 (At w) fun cs25=>StA 19 b 0 cs25 w fun w=>LdA 19 b 0 (At w) fun cs26=>Ret [] (R
 (.tuple #[.agg cs26,.int .i64 0]) w)))))))))
theorem C_codec_Unpack {bp:Option Addr} {bl:Nat} {bc:Nat} {w:World} {R:Value→World→Prop} (h:F_codec_Unpack bp bl bc w R):zB Tryz.prog 207 #[.slice bp bl bc] w R:=by
 exact zE (args:=[.slice bp bl bc]) (mkAnn [] [] [] [] []) zD Tryz.func207 rfl rfl (by kernel_rfl) h
def F_codec_Scan (bp:Option Addr) (bl:Nat) (bc:Nat) (w:World) (R:Value→World→Prop):Prop :=
 LoopC (σ:=(Option Addr×Nat×Nat)×Int×Unit) (fun _ s1 w K1=>Slc bl bc (some s1.2.1) none none fun l h m=>zB Tryz.prog 207 #[.slice (slcP 1 l m bp) (h-l)
 (m-l)] w fun v w=>T2 v fun v1 v2=>OpA 19 v1 fun cs=>OpI .i64 v2 fun n=>Alc 246 (zc Tryz.prog 246) w fun b w=>StA 19 b 0 cs w fun w=>Cb (n !=0) (Ret [] (R
 (.tuple #[.slice s1.1.1 s1.1.2.1 s1.1.2.2,.int .i64 s1.2.1]) w)) (LdA 19 b 0 (At w) fun cs1=>DoV Tryz.prog (Instr.buildSlice 113 1 #[(0,.agg cs1)]) w fun v3 w=>OpS
 v3 fun p l1 c=>DoV Tryz.prog (Builtin.append_ #[113,113] 113 #[.slice s1.1.1 s1.1.2.1 s1.1.2.2,.slice p l1 c]) w fun v4 w=>OpS v4 fun p1 l2 c1=>K1 ((p1,l2,c1),
 (IntKind.wrap .i64 (s1.2.1+37),())) w)) ((none,0,0),(0,())) w
theorem C_codec_Scan {bp:Option Addr} {bl:Nat} {bc:Nat} {w:World} {R:Value→World→Prop} (h:F_codec_Scan bp bl bc w R):zB Tryz.prog 136 #[.slice bp bl bc] w R:=by
 exact zE (args:=[.slice bp bl bc]) (mkAnn [(3,[(4,.slice),(5,(.int .i64))])] [] [] [] []) zD Tryz.func136 rfl rfl (by kernel_rfl) h
end Go.Proofs
namespace Go.Proofs
open Go Go.Ev
set_option maxRecDepth 100000
def lowB (n:Int):Nat→List Int
 | 0=>[]
 | i+1=>IntKind.wrap .u8 (ishr .u64 n (8*(i:Int)))::lowB n i
@[simp] theorem len_lowB (n:Int):∀ i,(lowB n i).length=i
 | 0=>rfl
 | i+1=>by simp [lowB,len_lowB n i]
def readB (l:List Int):Int:=l.foldl (fun a b=>ibits .or .u64 (ishl .u64 a 8) (IntKind.wrap .u64 b)) 0
section calls
variable {w:World} {p:Option Addr} {l c:Nat} {xs:List Int} {R:Value→World→Prop}
theorem c_read (h:SlL byLay w p l xs) (hl:l≤1000000000) (hK:R (.int .u64 (readB xs)) w):zB Tryz.prog 252 #[.slice p l c] w R:=by
 apply C_codec_read
 unfold F_codec_read
 have hlen:=h.1
 refine LoopC_of (σ:=Int×Int×Unit) (fun st w'=>w'=w∧∃ j:Nat,st.2.1=j∧j≤l∧st.1=readB (xs.take j)) (fun st _=>(l-st.2.1).toNat) ⟨rfl,0,rfl,by omega,rfl⟩ ?_
 rintro _ ⟨y,i1,u⟩ w1 ⟨rfl,j,hj,hjl,hy⟩
 simp only at hj hy ⊢
 subst hj hy
 refine Cb_of (fun hc=>?_) (fun hc=>?_)
 ·have hj:j<l:=by simp only [decide_eq_true_eq] at hc;omega
  have ew:IntKind.wrap .i64 ((j:Int)+1)=((j+1:Nat):Int):=by rw [wrapI (by omega) (by omega)];omega
  rw [ew]
  refine h.ld0 rfl (by omega) (getD_at (xs:=xs) (by omega) 0) (v:=.int .u8 (xs.getD j 0)) rfl ?_
  refine zA.2 ?_
  refine ⟨by decide,_,by omega,⟨by trivial,j+1,rfl,hj,?_⟩,rfl⟩
  rw [take_succ_getD (by omega)]
  unfold readB
  rw [List.foldl_append];rfl
 ·have hj:j=l:=by simp only [decide_eq_false_iff_not] at hc;omega
  subst hj
  refine Ret_nil.2 ?_
  rw [List.take_of_length_le (by omega)]
  exact hK
theorem set_low {xs:List Int} {hi i:Nat} {v:Int} {t:List Int} (h:i<hi) (hh:hi≤xs.length) (ht:t.length=i):(xs.take (hi-i)++t++xs.drop hi).set (hi-1-i) v=xs.take (hi-(i+1))++(v::t)++xs.drop hi:=by
 have e:xs.take (hi-i)=xs.take (hi-(i+1))++[xs.getD (hi-(i+1)) 0]:=by
  have:=take_succ_getD (l:=xs) (j:=hi-(i+1)) (by omega)
  rw [show hi-(i+1)+1=hi-i by omega] at this
  exact this
 rw [e]
 have hl:(xs.take (hi-(i+1))).length=hi-1-i:=by rw [List.length_take];omega
 rw [List.append_assoc,List.append_assoc,List.set_append_right _ _ (by omega),hl,Nat.sub_self]
 simp
theorem c_number {base:Nat} {e:TypeId} (ho:OwnL byLay w base e p l c xs) {lo hi m c2:Nat} {n:Int} (h1:lo≤hi) (h2:hi≤l) (h3:hi≤m) (hn:lo<m) (h64:hi-lo≤8)
  (hK:∀ w',OwnL byLay w' base e p l c (xs.take lo++lowB n (hi-lo)++xs.drop hi)→Keep (fun k=>p=some ⟨k,0,none⟩) w w'→w'.heap.size=w.heap.size→R (.tuple #[]) w') :
  zB Tryz.prog 263 #[.slice (slcP 1 lo m p) (hi-lo) c2,.int .u64 n] w R:=by
 apply C_codec_number
 unfold F_codec_number
 have hlen:=ho.length
 have hcap:=ho.cap
 refine LoopC_of (σ:=Int×Unit) (fun st w'=>∃ j:Nat,st.1=j∧j≤hi-lo∧OwnL byLay w' base e p l c (xs.take (hi-j)++lowB n j++xs.drop hi)∧Keep (fun k=>p=some ⟨k,0,none⟩) w w'∧w'.heap.size=w.heap.size)
  (fun st _=>(((hi-lo:Nat):Int)-st.1).toNat) ⟨0,rfl,by omega,by simpa [lowB] using ho,Keep.refl _ _,rfl⟩ ?_
 rintro _ ⟨i1,u⟩ w1 ⟨j,hj,hjl,o1,k1,z1⟩
 simp only at hj ⊢
 subst hj
 refine Cb_of (fun hc=>?_) (fun hc=>?_)
 ·have hj:j<hi-lo:=by simp only [decide_eq_true_eq] at hc;omega
  have ew:IntKind.wrap .i64 ((j:Int)+1)=((j+1:Nat):Int):=by rw [wrapI (by omega) (by omega)];omega
  have e8:IntKind.wrap .i64 (8*(j:Int))=8*(j:Int):=wrapI (by omega) (by omega)
  have ei:IntKind.wrap .i64 ((IntKind.wrap .i64 (((hi-lo:Nat):Int)-1))-(j:Int))=((hi-lo-1-j:Nat):Int):=by
   rw [wrapI (x:=((hi-lo:Nat):Int)-1) (by omega) (by omega),wrapI (by omega) (by omega)];omega
  rw [ew,e8,ei]
  refine ⟨by omega,?_⟩
  have hlr:(xs.take (hi-j)++lowB n j++xs.drop hi).length=xs.length:=by
   simp only [List.length_append,List.length_take,List.length_drop,len_lowB];omega
  have hix:hi-1-j<(xs.take (hi-j)++lowB n j++xs.drop hi).length:=by rw [hlr];omega
  have key:=o1.stF (i:=((hi-1-j:Nat):Int)) (n:=1) (t:=0) (x:=(xs.take (hi-j)++lowB n j++xs.drop hi).getD (hi-1-j) 0) (y:=IntKind.wrap .u8 (ishr .u64 n (8*(j:Int)))) (v:=.int .u8 (IntKind.wrap .u8 (ishr .u64 n (8*(j:Int))))) rfl (by omega)
   (getD_at hix 0) (by decide) rfl rfl (K:=fun w'=>∃ m',m'<(((hi-lo:Nat):Int)-(j:Int)).toNat∧((∃ j':Nat,((j+1:Nat):Int)=j'∧j'≤hi-lo∧OwnL byLay w' base e p l c (xs.take (hi-j')++lowB n j'++xs.drop hi)∧Keep (fun k=>p=some ⟨k,0,none⟩) w w'∧w'.heap.size=w.heap.size)∧(((hi-lo:Nat):Int)-((j+1:Nat):Int)).toNat=m')) fun w2 o2 k2 z2=>by
    refine ⟨_,by omega,⟨j+1,rfl,hj,?_,k1.trans k2,by rw [z2,z1]⟩,rfl⟩
    rw [Int.toNat_natCast,set_low (by omega) (by omega) (by simp)] at o2
    exact o2
  obtain ⟨b,o,hp,hi0,hil,hst⟩:=key
  refine ⟨b,o+lo,?_,by omega,by omega,?_⟩
  ·unfold slcP
   rw [if_neg (by omega),hp]
   simp [add_add']
  ·rw [Int.toNat_natCast] at hst ⊢
   rw [show o+lo+(hi-lo-1-j)*1=o+(hi-1-j)*1+0 by omega]
   exact hst
 ·have hj:j=hi-lo:=by simp only [decide_eq_false_iff_not] at hc;omega
  subst hj
  refine Ret_nil.2 (hK w1 ?_ k1 z1)
  rw [show hi-(hi-lo)=lo by omega] at o1
  exact o1
end calls
end Go.Proofs
namespace Go.Proofs
open Go.Ev
set_option maxRecDepth 100000
def F_cmp_isNaN_int (x:Int) (w:World) (R:Value→World→Prop):Prop :=
 Ret [] (R (.bool (x !=x)) w)
theorem C_cmp_isNaN_int {x:Int} {w:World} {R:Value→World→Prop} (h:F_cmp_isNaN_int x w R):zB Tryz.prog 267 #[.int .i64 x] w R:=by
 exact zE (args:=[.int .i64 x]) (mkAnn [] [] [] [] []) zD Tryz.func267 rfl rfl (by kernel_rfl) h
def F_cmp_isNaN_uint64 (x:Int) (w:World) (R:Value→World→Prop):Prop :=
 Ret [] (R (.bool (x !=x)) w)
theorem C_cmp_isNaN_uint64 {x:Int} {w:World} {R:Value→World→Prop} (h:F_cmp_isNaN_uint64 x w R):zB Tryz.prog 266 #[.int .u64 x] w R:=by
 exact zE (args:=[.int .u64 x]) (mkAnn [] [] [] [] []) zD Tryz.func266 rfl rfl (by kernel_rfl) h
def F_cmp_Compare_int (x:Int) (y:Int) (w:World) (R:Value→World→Prop):Prop :=
 zB Tryz.prog 267 #[.int .i64 x] w fun v w=>OpB v fun g=>zB Tryz.prog 267 #[.int .i64 y] w fun v1 w=>OpB v1 fun g1=>Cb g (Cb g1 (Ret [] (R (.int .i64 0) w))
 (Ret [] (R (.int .i64 (-1)) w))) (Cb g1 (Ret [] (R (.int .i64 1) w)) (Cb (decide (x<y)) (Ret [] (R (.int .i64 (-1)) w)) (Cb (decide (x>y)) (Ret [] (R (.int .i64 1) w))
 (Ret [] (R (.int .i64 0) w)))))
theorem C_cmp_Compare_int {x:Int} {y:Int} {w:World} {R:Value→World→Prop} (h:F_cmp_Compare_int x y w R):zB Tryz.prog 235 #[.int .i64 x,.int .i64 y] w R:=by
 exact zE (args:=[.int .i64 x,.int .i64 y]) (mkAnn [] [] [] [] []) zD Tryz.func235 rfl rfl (by kernel_rfl) h
def F_cmp_Compare_uint64 (x:Int) (y:Int) (w:World) (R:Value→World→Prop):Prop :=
 zB Tryz.prog 266 #[.int .u64 x] w fun v w=>OpB v fun g=>zB Tryz.prog 266 #[.int .u64 y] w fun v1 w=>OpB v1 fun g1=>Cb g (Cb g1 (Ret [] (R (.int .i64 0) w))
 (Ret [] (R (.int .i64 (-1)) w))) (Cb g1 (Ret [] (R (.int .i64 1) w)) (Cb (decide (x<y)) (Ret [] (R (.int .i64 (-1)) w)) (Cb (decide (x>y)) (Ret [] (R (.int .i64 1) w))
 (Ret [] (R (.int .i64 0) w)))))
theorem C_cmp_Compare_uint64 {x:Int} {y:Int} {w:World} {R:Value→World→Prop} (h:F_cmp_Compare_uint64 x y w R):zB Tryz.prog 234 #[.int .u64 x,.int .u64 y] w R:=by
 exact zE (args:=[.int .u64 x,.int .u64 y]) (mkAnn [] [] [] [] []) zD Tryz.func234 rfl rfl (by kernel_rfl) h
def F_cmp_Or_int (valsp:Option Addr) (valsl:Nat) (valsc:Nat) (w:World) (R:Value→World→Prop):Prop :=
 LoopC (σ:=Int×Unit) (fun _ s1 w K1=>Cb (decide (s1.1<((valsl:Nat):Int))) (IdxS valsp valsl s1.1 1 fun b o=>LdV b o (At w) fun v=>OpI .i64 v fun n=>Cb (n
 != 0) (Ret [] (R (.int .i64 n) w)) (K1 (IntKind.wrap .i64 (s1.1+1),()) w)) (Ret [] (R (.int .i64 0) w))) (0,()) w
theorem C_cmp_Or_int {valsp:Option Addr} {valsl:Nat} {valsc:Nat} {w:World} {R:Value→World→Prop} (h:F_cmp_Or_int valsp valsl valsc w R):zB Tryz.prog 233 #[.slice valsp valsl valsc] w R:=by
 exact zE (args:=[.slice valsp valsl valsc]) (mkAnn [(3,[(8,(.int .i64))])] [] [] [] []) zD Tryz.func233 rfl rfl (by kernel_rfl) h
end Go.Proofs
