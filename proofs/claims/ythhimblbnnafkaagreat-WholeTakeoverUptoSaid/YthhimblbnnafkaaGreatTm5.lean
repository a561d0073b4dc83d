import Derived.Test.YthhimblbnnafkaaGreatTm4
set_option linter.unusedSimpArgs false
set_option linter.unusedVariables false
namespace Go.Proofs
open Go Go.Ev Go.RowKit
set_option maxRecDepth 100000
def doneV (D:List Rec) (v:Int):Bool:=D.any fun x=>x.kind==5 && x.ver==v
def gStep (D pre:List Rec) (x:Rec) (G:List (Int×List PutS)):List (Int×List PutS) :=
 if x.kind=4∧doneV D x.ver=false∧mlook G x.ver=none then ins G x.ver (grp x.ver pre) else G
def gList (D:List Rec):List Rec→List Rec→List (Int×List PutS)→List (Int×List PutS)
 | _,[],G=>G
 | pre,x::xs,G=>gList D (pre++[x]) xs (gStep D pre x G)
def gLists (D:List Rec):List (List Rec)→List (Int×List PutS)→List (Int×List PutS)
 | [],G=>G
 | l::ls,G=>gLists D ls (gList D [] l G)
def sortU (l:List Int):List Int:=l.mergeSort fun a b=>decide (a≤b)
def pendG (LL:List (List Rec)):List (Int×List PutS):=gLists LL.flatten LL []
def pendS (LL:List (List Rec)):List PutS:=(sortU ((pendG LL).map (·.1))).flatMap fun v=>(mlook (pendG LL) v).getD []
theorem sortU_perm (l:List Int):(sortU l).Perm l:=List.mergeSort_perm _ _
theorem sortU_up (l:List Int):(sortU l).Pairwise (·≤·):=by
 have:=List.pairwise_mergeSort (le:=fun a b:Int=>decide (a≤b)) (fun a b c h1 h2=>by simp only [decide_eq_true_eq] at *;omega) (fun a b=>by
  by_cases h:a≤b
  ·simp [h]
  ·have:b≤a:=by omega
   simp [this]) l
 exact this.imp fun h=>by simpa using h
theorem sortU_eq {a b:List Int} (h:a.Perm b):sortU a=sortU b :=
 List.Perm.eq_of_pairwise (le:=(·≤·)) (fun x y _ _ h1 h2=>by omega) (sortU_up a) (sortU_up b) ((sortU_perm a).trans (h.trans (sortU_perm b).symm))
theorem doneV_succ {D:List Rec} {i:Nat} {x:Rec} (hx:D[i]? = some x) (v:Int):doneV (D.take (i+1)) v=(doneV (D.take i) v || (x.kind==5 && x.ver==v)):=by
 unfold doneV
 rw [List.take_add_one,hx,List.any_append]
 simp
theorem gList_at {D l:List Rec} {i:Nat} {x:Rec} {G:List (Int×List PutS)} (hx:l[i]? = some x):gList D (l.take i) (l.drop i) G=gList D (l.take (i+1)) (l.drop (i+1)) (gStep D (l.take i) x G):=by
 have hi:i<l.length:=(List.getElem?_eq_some_iff.1 hx).1
 have e1:l.drop i=x::l.drop (i+1):=by
  rw [List.drop_eq_getElem_cons hi]
  congr 1
  exact (List.getElem?_eq_some_iff.1 hx).2
 have e2:l.take (i+1)=l.take i++[x]:=by rw [List.take_add_one,hx];rfl
 rw [e1,e2]
 rfl
theorem ins_new {α:Type} {es:List (Int×α)} {x:Int} {v:α} (h:mlook es x=none):ins es x v=es++[(x,v)]:=by
 have:es.any (fun p=>p.1==x)=false:=by
  unfold mlook at h
  cases hf:es.find? (fun p=>p.1==x) with
  | some p=>rw [hf] at h;cases h
  | none =>
   rw [List.find?_eq_none] at hf
   rw [List.any_eq_false]
   exact hf
 unfold ins
 rw [this]
 rfl
def SortTo (N:Nat):Prop:=∀ (p:Option Addr) (l c base:Nat) (xs:List Int) (w:World) (R:Value→World→Prop),l≤N→OwnL uLay w base 39 p l c xs→(∀ x∈xs,0≤x∧x≤18446744073709551615) →
 (∀ w',OwnL uLay w' base 39 p l c (sortU xs)→Keep (fun k=>p=some ⟨k,0,none⟩) w w'→R (.tuple #[]) w')→zB Tryz.prog 203 #[.slice p l c] w R
theorem sort_to1:SortTo 1:=fun p l c base xs w R hl o hx hK=>by
 refine sort_small hl (hK w ?_ (Keep.refl _ _))
 have e:sortU xs=xs:=by
  have hlen:=o.length
  match xs,hlen with
  | [],_=>simp [sortU]
  | [x],_=>simp [sortU,List.mergeSort]
  | _::_::_,h=>simp at h;omega
 rw [e];exact o
theorem lists_of {w:World} {lp:Option Addr} {ll:Nat} {Q:List (Option Addr×Nat×Nat)} {LL:List (List Rec)} (h:SlL hLay w lp ll Q) (hQ:Q.length=LL.length) (hq:∀ (i:Nat) (q:Option Addr×Nat×Nat) (rs:List Rec),Q[i]? = some q→LL[i]? = some rs→SlL rLay w q.1 q.2.1 rs):Lists w lp ll LL:=by
 have hl:=h.1
 refine ⟨by omega,fun i=>Q.getD i (none,0,0),fun i hi=>⟨rfl,?_⟩,fun i hi=>?_⟩
 ·have hlt:i<Q.length:=by omega
  obtain ⟨b,o,hp,hc⟩:=h.2 i Q[i] (List.getElem?_eq_getElem hlt)
  have e:Q.getD i (none,0,0)=Q[i]:=by rw [List.getD_eq_getElem?_getD,List.getElem?_eq_getElem hlt];rfl
  exact ⟨b,o,hp,fun j hj=>by show _=[Value.slice (Q.getD i (none,0,0)).1 (Q.getD i (none,0,0)).2.1 (Q.getD i (none,0,0)).2.2][j]?;rw [e];exact hc j hj⟩
 ·have hlt:i<Q.length:=by omega
  have hlt2:i<LL.length:=by omega
  have e:Q.getD i (none,0,0)=Q[i]:=by rw [List.getD_eq_getElem?_getD,List.getElem?_eq_getElem hlt];rfl
  have e2:LL.getD i []=LL[i]:=by rw [List.getD_eq_getElem?_getD,List.getElem?_eq_getElem hlt2];rfl
  show RecSl w (Q.getD i (none,0,0)).1 (Q.getD i (none,0,0)).2.1 (LL.getD i [])
  rw [e,e2]
  exact recSl_of (hq i _ _ (List.getElem?_eq_getElem hlt) (List.getElem?_eq_getElem hlt2))
abbrev GH:=(Option Addr×Nat×Nat)×List PutS
def hdrG (y:GH):Value:=.slice y.1.1 y.1.2.1 y.1.2.2
def RowsG (w:World) (H:List (Int×GH)):Prop:=∀ e∈H,SlT puLay w 88 e.2.1.1 e.2.1.2.1 e.2.1.2.2 e.2.2∧e.2.1.2.1≤100000
theorem RowsG.keep {w w':World} {H:List (Int×GH)} {S:Nat→Prop} (h:RowsG w H) (k:Keep S w w') (hS:∀ i cur,Has w i (.cells cur 88 (0,0))→¬ S i):RowsG w' H :=
 fun e he=>⟨(h e he).1.keepB k hS,(h e he).2⟩
theorem mlook_in {α:Type} {es:List (Int×α)} {x:Int} {e:α} (h:mlook es x=some e):(x,e)∈es:=by
 unfold mlook at h
 cases hf:es.find? (fun p=>p.1==x) with
 | none=>rw [hf] at h;cases h
 | some p =>
  rw [hf] at h
  cases h
  have h1:=List.find?_some hf
  have h2:=List.mem_of_find?_eq_some hf
  have h3:p.1=x:=by simpa using h1
  rw [← h3]
  exact h2
theorem in_mlook {α:Type} {es:List (Int×α)} {x:Int} (h:x∈es.map (·.1)):∃ e,mlook es x=some e:=by
 unfold mlook
 cases hf:es.find? (fun p=>p.1==x) with
 | some p=>exact ⟨_,rfl⟩
 | none =>
  obtain ⟨p,hp,hx⟩:=List.mem_map.1 h
  rw [List.find?_eq_none] at hf
  exact absurd (by simpa using hx) (hf p hp)
theorem grp_len {v:Int} {rs:List Rec}:(grp v rs).length≤rs.length:=by
 unfold grp
 rw [List.length_map]
 exact List.length_filter_le _ _
section calls
variable {w:World} {R:Value→World→Prop}
theorem i_PendingG {N:Nat} (hs:SortTo N) {lp:Option Addr} {ll lc:Nat} {Q:List (Option Addr×Nat×Nat)} {LL:List (List Rec)} (h:SlL hLay w lp ll Q) (hQ:Q.length=LL.length)
  (hq:∀ (i:Nat) (q:Option Addr×Nat×Nat) (rs:List Rec),Q[i]? = some q→LL[i]? = some rs→SlL rLay w q.1 q.2.1 rs∧q.2.1≤q.2.2) (hll:ll≤1000) (hl:LL.flatten.length≤100000) (hlba:∀ x∈LL.flatten,0≤x.lba∧x.lba≤2147483647)
  (hver:∀ x∈LL.flatten,0≤x.ver∧x.ver≤18446744073709551615) (hN:(pendG LL).length≤N) (hN2:N≤1000)
  (hK:∀ p' c' w',OwnL puLay w' w.heap.size 88 p' (pendS LL).length c' (pendS LL)→Keep (fun _=>False) w w'→R (.slice p' (pendS LL).length c') w') :
  zB Tryz.prog 132 #[.slice lp ll lc] w R:=by
 apply C_intent_Pending
 unfold F_intent_Pending
 have hlen:=h.1
 have hmem:∀ (i:Nat) (rs:List Rec),LL[i]? = some rs→∀ x∈rs,x∈LL.flatten:=fun i rs hi x hx=>List.mem_flatten.2 ⟨rs,List.mem_of_getElem? hi,hx⟩
 have hsub:∀ (i:Nat) (rs:List Rec),LL[i]? = some rs→rs.length≤100000:=fun i rs hi=>by
  have:=(List.sublist_flatten_of_mem (List.mem_of_getElem? hi)).length_le
  omega
 refine ⟨_,_,run_makeMap,OpM_map.2 ?_⟩
 have k1:=Keep.new (fun _=>False) w (.map #[] 0)
 have hM1:MapAt .u64 (w.alloc (.map #[] 0)) w.heap.size []:=⟨_,_,Has.new _ _,MapOk.nil _⟩
 have z1:(w.alloc (.map #[] 0)).heap.size=w.heap.size+1:=by simp
 generalize w.alloc (.map #[] 0)=w1 at *
 generalize hm1:w.heap.size=m1 at *
 refine concat_recs (lists_of (h.keepB k1 (by simp)) hQ fun i q rs h1 h2=>((hq i q rs h1 h2).1).keepB k1 (by simp)) (by omega) (by show LL.flatten.length≤_;omega) fun p2 l2 c2 w2 o2 k2=>zC.2 ?_
 have o2:OwnL rLay w2 w1.heap.size 246 p2 l2 c2 LL.flatten:=o2
 have k02:=k1.trans k2
 have hl2:l2=LL.flatten.length:=o2.length
 generalize hD:LL.flatten=D at *
 refine LoopC_of (σ:=Int×Unit) (fun st w'=>∃ (i:Nat) (E:List (Int×Value)),st.1=(i:Int)∧i≤l2∧MapAt .u64 w' m1 E∧(∀ v,mlook E v=if doneV (D.take i) v=true then some (.agg #[]) else none)∧OwnL rLay w' w1.heap.size 246 p2 l2 c2 D∧Keep (fun _=>False) w w') (fun st _=>((l2:Int)-st.1).toNat)
  ⟨0,[],rfl,by omega,hM1.keep k2 (by simp),fun v=>by simp [doneV,mlook],o2,k02⟩ ?_
 rintro _ ⟨i,u⟩ w3 ⟨i',E,hi,hil,hM3,hE,o3,k3⟩
 simp only at hi ⊢
 subst hi
 refine Cb_of (fun hc=>?_) (fun hc=>?_)
 ·have hc:i'<l2:=by
   have:(i':Int)<(l2:Int):=by simpa using hc
   omega
  have ek:IntKind.wrap .i64 ((i':Int)+1)=((i'+1:Nat):Int):=by rw [wrapI (by omega) (by omega)];omega
  have hless:((l2:Int)-IntKind.wrap .i64 ((i':Int)+1)).toNat<((l2:Int)-(i':Int)).toNat:=by rw [ek];omega
  obtain ⟨x,hx⟩:∃ x,D[i']? = some x:=⟨_,List.getElem?_eq_getElem (by omega)⟩
  refine o3.sl.ldA (i:=(i':Int)) (n:=19) (x:=x) rfl (by omega) (by rw [Int.toNat_natCast];exact hx) ?_
  rw [rc_row]
  refine copy_of zc_rc rfl (one_recL x) fun w4 hb4 k4 z4=>?_
  have hM4:=hM3.keep k4 (by simp)
  have o4:=o3.keep k4 (by simp)
  refine LdV_has (v:=.int .i64 x.kind) hb4 rfl (zA.2 ?_)
  refine Cb_of (fun e5=>?_) (fun e5=>?_)
  ·refine LdV_has (v:=.int .u64 x.ver) hb4 rfl (zA.2 ?_)
   refine DoQ_of (v:=.agg #[]) (fun _=>run_build _ _ _ _ (by kernel_rfl)) (OpA_agg.2 ⟨rfl,?_⟩)
   obtain ⟨arr,clk,hr5,ho5⟩:=run_mapUpdate (P:=Tryz.prog) under_done under_u64 hM4 x.ver (.agg #[])
   refine ⟨_,hr5,?_⟩
   have ku:=Keep.one w4 m1 (.map arr clk)
   have hlt:=hM4.lt
   obtain ⟨ar0,ck0,hH0,_⟩:=hM4
   refine ⟨_,hless,⟨i'+1,ins E x.ver (.agg #[]),ek,by omega,⟨arr,clk,Has.upd_same hH0 _,ho5⟩,fun v=>?_,o4.keep ku fun k hk e=>by have:=(o4.lt hk).1;omega,((k3.trans k4).trans' ku fun i hi e=>by omega)⟩,rfl⟩
   rw [look_ins,doneV_succ hx,e5,Bool.true_and,hE]
   by_cases e:v=x.ver
   ·subst e;simp
   ·have:(x.ver==v)=false:=beq_eq_false_iff_ne.2 fun h=>e h.symm
    rw [if_neg e,this,Bool.or_false]
  ·refine ⟨_,hless,⟨i'+1,E,ek,by omega,hM4,fun v=>?_,o4,k3.trans k4⟩,rfl⟩
   rw [doneV_succ hx,e5,Bool.false_and,Bool.or_false,hE]
 ·have hc:i'=l2:=by
   have:¬ (i':Int)<(l2:Int):=by simpa using hc
   omega
  rw [List.take_of_length_le (by omega)] at hE
  clear hc o3
  refine ⟨_,_,run_makeMap,OpM_map.2 ?_⟩
  have k4:=Keep.new (fun _=>False) w3 (.map #[] 0)
  have hG4:MapAt .u64 (w3.alloc (.map #[] 0)) w3.heap.size []:=⟨_,_,Has.new _ _,MapOk.nil _⟩
  have hM4:=hM3.keep k4 (by simp)
  have z4:(w3.alloc (.map #[] 0)).heap.size=w3.heap.size+1:=by simp
  generalize w3.alloc (.map #[] 0)=w4 at *
  have k04:=k3.trans k4
  have zm1:m1<w3.heap.size:=hM3.lt
  generalize hm2:w3.heap.size=m2 at *
  refine LoopC_of (σ:=Int×Unit) (fun st w'=>∃ (i:Nat) (H:List (Int×GH)),st.1=(i:Int)∧i≤ll∧MapAt .u64 w' m1 E∧MapAt .u64 w' m2 (tag hdrG H)∧RowsG w' H∧gLists D (LL.drop i) (tag (fun y=>y.2) H)=pendG LL∧Keep (fun _=>False) w w') (fun st _=>((ll:Int)-st.1).toNat)
   ⟨0,[],rfl,by omega,hM4,hG4,fun e he=>by simp at he,by rw [List.drop_zero];unfold pendG;rw [hD];rfl,k04⟩ ?_
  rintro _ ⟨j,u⟩ w5 ⟨j',H,hj,hjl,hM5,hG5,hR5,hgl,k5⟩
  simp only at hj ⊢
  subst hj
  refine Cb_of (fun hc=>?_) (fun hc=>?_)
  ·have hc:j'<ll:=by
    have:(j':Int)<(ll:Int):=by simpa using hc
    omega
   have ekj:IntKind.wrap .i64 ((j':Int)+1)=((j'+1:Nat):Int):=by rw [wrapI (by omega) (by omega)];omega
   have hlessj:((ll:Int)-IntKind.wrap .i64 ((j':Int)+1)).toNat<((ll:Int)-(j':Int)).toNat:=by rw [ekj];omega
   obtain ⟨q,hqj⟩:∃ q,Q[j']? = some q:=⟨_,List.getElem?_eq_getElem (by omega)⟩
   obtain ⟨rs,hrs⟩:∃ rs,LL[j']? = some rs:=⟨_,List.getElem?_eq_getElem (by omega)⟩
   obtain ⟨hqs,hqc⟩:=hq j' q rs hqj hrs
   have hql:=hqs.1
   have hrl:=hsub j' rs hrs
   refine (h.keepB k5 (by simp)).ld0 (i:=(j':Int)) (n:=1) (x:=q) (v:=.slice q.1 q.2.1 q.2.2) rfl (by omega) (by rw [Int.toNat_natCast];exact hqj) rfl (zC.2 ?_)
   have hdr:LL.drop j'=rs::LL.drop (j'+1):=by
    have hlt:j'<LL.length:=(List.getElem?_eq_some_iff.1 hrs).1
    rw [List.drop_eq_getElem_cons hlt]
    congr 1
    exact (List.getElem?_eq_some_iff.1 hrs).2
   rw [hdr] at hgl
   have hgl:gLists D (LL.drop (j'+1)) (gList D [] rs (tag (fun y=>y.2) H))=pendG LL:=hgl
   refine LoopC_of (σ:=Int×Unit) (fun st w'=>∃ (i:Nat) (H':List (Int×GH)),st.1=(i:Int)∧i≤q.2.1∧MapAt .u64 w' m1 E∧MapAt .u64 w' m2 (tag hdrG H')∧RowsG w' H'∧gList D (rs.take i) (rs.drop i) (tag (fun y=>y.2) H')=gList D [] rs (tag (fun y=>y.2) H)∧Keep (fun _=>False) w w') (fun st _=>((q.2.1:Int)-st.1).toNat)
    ⟨0,H,rfl,by omega,hM5,hG5,hR5,rfl,k5⟩ ?_
   rintro _ ⟨t,u⟩ w6 ⟨t',H',ht,htl,hM6,hG6,hR6,hg6,k6⟩
   simp only at ht ⊢
   subst ht
   refine Cb_of (fun hc=>?_) (fun hc=>?_)
   ·have hc:t'<q.2.1:=by
     have:(t':Int)<(q.2.1:Int):=by simpa using hc
     omega
    have ek:IntKind.wrap .i64 ((t':Int)+1)=((t'+1:Nat):Int):=by rw [wrapI (by omega) (by omega)];omega
    have hless:((q.2.1:Int)-IntKind.wrap .i64 ((t':Int)+1)).toNat<((q.2.1:Int)-(t':Int)).toNat:=by rw [ek];omega
    obtain ⟨x,hx⟩:∃ x,rs[t']? = some x:=⟨_,List.getElem?_eq_getElem (by omega)⟩
    rw [gList_at hx] at hg6
    refine (hqs.keepB k6 (by simp)).ldA (i:=(t':Int)) (n:=19) (x:=x) rfl (by omega) (by rw [Int.toNat_natCast];exact hx) ?_
    rw [rc_row]
    refine copy_of zc_rc rfl (one_recL x) fun w7 hb7 k7 z7=>?_
    have hM7:=hM6.keep k7 (by simp)
    have hG7:=hG6.keep k7 (by simp)
    have hR7:=hR6.keep k7 (by simp)
    have k07:=k6.trans k7
    have same:∀ w8,Keep (fun _=>False) w7 w8→gStep D (rs.take t') x (tag (fun y=>y.2) H')=tag (fun y=>y.2) H'→∃ m_1,m_1<((q.2.1:Int)-(t':Int)).toNat∧(∃ (i:Nat) (H'':List (Int×GH)),IntKind.wrap .i64 ((t':Int)+1)=(i:Int)∧i≤q.2.1∧MapAt .u64 w8 m1 E∧MapAt .u64 w8 m2 (tag hdrG H'')∧RowsG w8 H''∧gList D (rs.take i) (rs.drop i) (tag (fun y=>y.2) H'')=gList D [] rs (tag (fun y=>y.2) H)∧Keep (fun _=>False) w w8)∧((q.2.1:Int)-IntKind.wrap .i64 ((t':Int)+1)).toNat=m_1:=by
     intro w8 k8 hst
     rw [hst] at hg6
     exact ⟨_,hless,⟨t'+1,H',ek,by omega,hM7.keep k8 (by simp),hG7.keep k8 (by simp),hR7.keep k8 (by simp),hg6,k07.trans k8⟩,rfl⟩
    refine LdV_has (v:=.int .i64 x.kind) hb7 rfl (zA.2 ?_)
    refine Cb_of (fun e4=>?_) (fun e4=>?_)
    ·have e4:¬ x.kind=4:=by simpa using e4
     exact same w7 (Keep.refl _ _) (by unfold gStep;rw [if_neg fun h=>e4 h.1])
    ·have e4:x.kind=4:=by simpa using e4
     refine LdV_has (v:=.int .u64 x.ver) hb7 rfl (zA.2 ?_)
     refine DoQ_of (fun d=>run_lookup (P:=Tryz.prog) under_done under_u64 (z:=.agg #[]) (fun w=>run_zeroValue (i:=(Tryz.prog.info? 130).get (by kernel_rfl)) (by kernel_rfl) (by kernel_rfl)) (hM7.dr d) x.ver true) ?_
     rw [hE]
     refine T2_mk.2 ?_
     have hg0:((if doneV D x.ver=true then some (Value.agg #[]) else none).getD (.agg #[]))=.agg #[]:=by split <;> rfl
     have hg1:(if doneV D x.ver=true then some (Value.agg #[]) else none).isSome=doneV D x.ver:=by cases doneV D x.ver <;> rfl
     rw [hg0,hg1]
     refine OpA_agg.2 ⟨rfl,OpB_bool.2 ?_⟩
     refine copy_of (by kernel_rfl) rfl (by intro v hv;cases hv) fun w8 hb8 k8 z8=>?_
     have hb78:=k8.has hb7 (by simp)
     refine LdV_has (v:=.int .u64 x.ver) hb78 rfl (zA.2 ?_)
     have hG8:=hG7.keep k8 (by simp)
     refine DoQ_of (fun d=>run_lookup (P:=Tryz.prog) under_grps under_u64 (z:=.slice none 0 0) (fun w=>run_zeroValue (i:=(Tryz.prog.info? 75).get (by kernel_rfl)) (by kernel_rfl) (by kernel_rfl)) (hG8.dr d) x.ver true) ?_
     rw [look_tag]
     refine T2_mk.2 ?_
     obtain ⟨sp,sl,sc,hsl⟩:∃ sp sl sc,((mlook H' x.ver).map hdrG).getD (.slice none 0 0)=.slice sp sl sc:=by
      cases mlook H' x.ver with
      | none=>exact ⟨_,_,_,rfl⟩
      | some y=>exact ⟨_,_,_,rfl⟩
     rw [hsl]
     refine zC.2 (OpB_bool.2 ⟨by trivial,by trivial,?_⟩)
     cases hd:doneV D x.ver with
     | true=>exact (Cb_false (p:=_)).2 (same w8 k8 (by unfold gStep;rw [if_neg fun h=>by rw [hd] at h;exact absurd h.2.1 (by decide)]))
     | false =>
      cases hF:mlook H' x.ver with
      | some y =>
       refine (Cb_false (p:=_)).2 (same w8 k8 ?_)
       unfold gStep
       rw [if_neg fun h=>?_]
       rw [look_tag,hF] at h
       exact absurd h.2.2 (by simp)
      | none =>
       refine (Cb_true (q:=_)).2 ?_
       intro d
       have kd:=Keep.drew (fun _=>False) w8 d
       have hb9:=kd.has hb78 (by simp)
       have k89:=k8.trans kd
       have hM9:=hM7.keep k89 (by simp)
       have hG9:=hG8.keep kd (by simp)
       have hR9:=hR7.keep k89 (by simp)
       have k09:=k07.trans k89
       have hq9:=hqs.keepB k09 (by simp)
       generalize w8.dr d=w9 at *
       generalize w6.heap.size=b6 at *
       refine ⟨fun w'=>Has w' b6 (.cells (recV x) 246 (0,0)),hb9,?_⟩
       refine LdV_of (v:=.int .u64 x.ver) (fun w' hw=>⟨_,_,_,hw,rfl⟩) (zA.2 ?_)
       refine Slc_hiN (hi:=t') (by omega) ?_
       have hsub:=hq9.sub (lo:=0) (hi:=t') (m:=q.2.2) (by omega) (by omega) (by omega)
       rw [List.drop_zero] at hsub
       refine LdV_has (v:=.int .u64 x.ver) hb9 rfl (zA.2 ?_)
       refine i_group hsub (by omega) (fun y hy=>hlba y (hmem j' rs hrs y (List.mem_of_mem_take hy))) fun p' c' w10 o10 k10=>zC.2 ⟨k10.has hb9 (by simp),?_⟩
       have hM10:=hM9.keep k10 (by simp)
       have hG10:=hG9.keep k10 (by simp)
       have hR10:=hR9.keep k10 (by simp)
       obtain ⟨arr,clk,hr11,ho11⟩:=run_mapUpdate (P:=Tryz.prog) under_grps under_u64 hG10 x.ver (.slice p' (grp x.ver (rs.take t')).length c')
       refine ⟨_,hr11,?_⟩
       have ku:=Keep.one w10 m2 (.map arr clk)
       have hG10':=hG10
       obtain ⟨ar0,ck0,hH0,_⟩:=hG10
       have hb10:=k10.has hb9 (by simp)
       have h26:b6≠m2:=fun e=>by
        have:=hH0
        rw [← e] at this
        exact absurd (this.symm.trans hb10) (by simp)
       have zw9:m1≤w9.heap.size:=by have:=k09.size;omega
       have hput:∀ k cur,Has w10 k (.cells cur 88 (0,0))→¬ k=m2:=fun k cur hk e=>by
        rw [e] at hk
        exact absurd (hk.symm.trans hH0) (by simp)
       have hnew:ins H' x.ver ((p',(grp x.ver (rs.take t')).length,c'),grp x.ver (rs.take t'))=H'++[(x.ver,((p',(grp x.ver (rs.take t')).length,c'),grp x.ver (rs.take t')))]:=ins_new hF
       refine ⟨ku.has hb10 h26,_,hless,⟨t'+1,ins H' x.ver ((p',(grp x.ver (rs.take t')).length,c'),grp x.ver (rs.take t')),ek,by omega,hM10.keep ku (by omega),?_,?_,?_,(k09.trans k10).trans' ku fun i hi e=>by omega⟩,rfl⟩
       ·have:=ins_tag hdrG H' x.ver ((p',(grp x.ver (rs.take t')).length,c'),grp x.ver (rs.take t'))
        rw [← this]
        exact ⟨arr,clk,Has.upd_same hH0 _,ho11⟩
       ·rw [hnew]
        intro e he
        rcases List.mem_append.1 he with he | he
        ·exact ⟨((hR10 e he).1).keepB ku hput,(hR10 e he).2⟩
        ·rw [List.mem_singleton.1 he]
         refine ⟨(SlT.of o10).keepB ku hput,?_⟩
         have:=grp_len (v:=x.ver) (rs:=rs.take t')
         rw [List.length_take] at this
         show (grp x.ver (rs.take t')).length≤100000
         omega
       ·have e1:=ins_tag (fun y:GH=>y.2) H' x.ver ((p',(grp x.ver (rs.take t')).length,c'),grp x.ver (rs.take t'))
        rw [← e1,← hg6]
        have:gStep D (rs.take t') x (tag (fun y=>y.2) H')=ins (tag (fun y=>y.2) H') x.ver (grp x.ver (rs.take t')):=by
         unfold gStep
         rw [if_pos ⟨e4,hd,by rw [look_tag,hF];rfl⟩]
        rw [this]
   ·have hc:t'=q.2.1:=by
     have:¬ (t':Int)<(q.2.1:Int):=by simpa using hc
     omega
    have hdn:rs.drop t'=[]:=List.drop_of_length_le (by omega)
    rw [hdn] at hg6
    have hg6:tag (fun y=>y.2) H'=gList D [] rs (tag (fun y=>y.2) H):=hg6
    exact ⟨_,hlessj,⟨j'+1,H',ekj,by omega,hM6,hG6,hR6,by rw [hg6];exact hgl,k6⟩,rfl⟩
  ·have hc:j'=ll:=by
    have:¬ (j':Int)<(ll:Int):=by simpa using hc
    omega
   rw [List.drop_of_length_le (by omega)] at hgl
   have hgl:tag (fun y=>y.2) H=pendG LL:=hgl
   clear hc
   obtain ⟨w6,hr6,hI6,k6⟩:=run_rangeM (P:=Tryz.prog) under_grps hG5
   refine ⟨_,_,hr6,OpN_some.2 ?_⟩
   have hG6:=hG5.keep k6 (by simp)
   have hR6:=hR5.keep k6 (by simp)
   have k06:=k5.trans k6
   have z5:=k5.size
   have hm5:=hG5.lt
   have zri:w5.heap.size<w6.heap.size:=hI6.lt.1
   generalize hri:w5.heap.size=ri at *
   have hHk:H.map (·.1)=(pendG LL).map (·.1):=by rw [← hgl];simp [tag]
   have hHl:H.length=(pendG LL).length:=by have:=congrArg List.length hHk;simpa using this
   have hverH:∀ x∈H.map (·.1),0≤x∧x≤18446744073709551615:=by
    rw [hHk]
    have step:∀ (pre:List Rec) (xs:List Rec) (G:List (Int×List PutS)),(∀ x∈xs,x∈D)→(∀ x∈G.map (·.1),0≤x∧x≤18446744073709551615)→∀ x∈(gList D pre xs G).map (·.1),0≤x∧x≤18446744073709551615:=by
     intro pre xs
     induction xs generalizing pre with
     | nil=>exact fun G _ h=>h
     | cons y ys ih =>
      intro G hxs hG
      refine ih _ _ (fun x hx=>hxs x (by simp [hx])) ?_
      unfold gStep
      split
      ·rename_i hc
       rw [ins_new hc.2.2]
       intro x hx
       rw [List.map_append] at hx
       rcases List.mem_append.1 hx with hx | hx
       ·exact hG x hx
       ·have:x=y.ver:=by simpa using hx
        rw [this]
        exact hver y (hxs y (by simp))
      ·exact hG
    have steps:∀ (ls:List (List Rec)) (G:List (Int×List PutS)),(∀ l∈ls,∀ x∈l,x∈D)→(∀ x∈G.map (·.1),0≤x∧x≤18446744073709551615)→∀ x∈(gLists D ls G).map (·.1),0≤x∧x≤18446744073709551615:=by
     intro ls
     induction ls with
     | nil=>exact fun G _ h=>h
     | cons l ls ih =>
      intro G hls hG
      exact ih _ (fun l' hl'=>hls l' (by simp [hl'])) (step _ _ _ (hls l (by simp)) hG)
    unfold pendG
    rw [hD]
    exact steps LL [] (fun l hl x hx=>by rw [← hD];exact List.mem_flatten.2 ⟨l,hl,hx⟩) (by simp)
   refine LoopC_of (σ:=(Option Addr×Nat×Nat)×Unit) (fun st w'=>∃ (vs:List Int) (left:List (Int×Value)),Keep (fun _=>False) w w'∧Keep (fun k=>ri≤k) w6 w'∧MapAt .u64 w' m2 (tag hdrG H)∧RowsG w' H∧Iter .u64 w' ri m2 left∧OwnL uLay w' (ri+1) 39 st.1.1 st.1.2.1 st.1.2.2 vs∧(vs++left.map (·.1)).Perm (H.map (·.1))) (fun st _=>H.length-st.1.2.1)
    ⟨[],tag hdrG H,k06,Keep.refl _ _,hG6,hR6,hI6,OwnL.nil,by simp [tag,Function.comp_def]⟩ ?_
   rintro _ ⟨⟨op,ol,oc⟩,u⟩ w7 ⟨vs,left,k7,k67,hG7,hR7,hI7,o7,hp7⟩
   simp only at o7 ⊢
   have hlp:=hp7.length_eq
   rw [List.length_append,List.length_map,List.length_map] at hlp
   have hol:=o7.length
   rcases run_nextM (P:=Tryz.prog) (ty:=0) hI7 with ⟨hnil,hr8⟩ | ⟨x,y,left',w8,hp8,hr8,hI8,hA8,k8⟩
   ·refine ⟨_,_,hr8,Or.inr ⟨rfl,?_⟩⟩
    subst hnil
    rw [List.map_nil,List.append_nil] at hp7
    refine hs op ol oc (ri+1) vs w7 _ (by omega) o7 (fun x hx=>hverH x (hp7.mem_iff.1 hx)) fun w8 o8 k8=>?_
    have hsv:sortU vs=sortU ((pendG LL).map (·.1)):=sortU_eq (by rw [← hHk];exact hp7)
    rw [hsv] at o8
    have ko8:Keep (fun k=>ri+1≤k) w7 w8:=k8.mono fun k hk=>(o7.lt hk).1
    have hm2r:m2<ri:=by omega
    have hG8:=hG7.keep ko8 (by omega)
    have k08:Keep (fun _=>False) w w8:=k7.trans' ko8 fun i hi e=>by omega
    have hR8:RowsG w8 H:=hR7.keep k8 fun k cur hk e=>by
     have h9:=o7
     rcases Own.cases h9 with ⟨h0,_⟩ | ⟨b',cur',h0,_,hg',_⟩
     ·rw [h0] at e;cases e
     ·rw [h0] at e;cases e
      have:=hk.inj hg'
      simp only [Obj.cells.injEq] at this
      exact absurd this.2.1 (by decide)
    generalize hVS:sortU ((pendG LL).map (·.1))=VS at *
    have hVSp:VS.Perm (H.map (·.1)):=by rw [← hVS,hHk];exact sortU_perm _
    have hVl:ol=VS.length:=o8.length
    have hgr:∀ v∈VS,∃ y,mlook H v=some y:=fun v hv=>in_mlook (hVSp.mem_iff.1 hv)
    have hpend:∀ v,(mlook (pendG LL) v).getD []=((mlook H v).map (fun y=>y.2)).getD []:=fun v=>by rw [← hgl,look_tag]
    refine LoopC_of (σ:=(Option Addr×Nat×Nat)×Int×Unit) (fun st w'=>∃ i:Nat,st.2.1=(i:Int)∧i≤ol∧OwnL puLay w' m1 88 st.1.1 st.1.2.1 st.1.2.2 ((VS.take i).flatMap fun v=>(mlook (pendG LL) v).getD [])∧(∀ k,st.1.1=some ⟨k,0,none⟩→w8.heap.size≤k)∧Keep (fun _=>False) w8 w') (fun st _=>((ol:Int)-st.2.1).toNat)
     ⟨0,rfl,by omega,OwnL.nil,(fun k hk=>by cases hk),Keep.refl _ _⟩ ?_
    rintro _ ⟨⟨ap,al,ac⟩,t,u⟩ w9 ⟨t',ht,htl,o9,hap,k9⟩
    simp only at ht o9 hap ⊢
    subst ht
    have hflat:∀ n,((VS.take n).flatMap fun v=>(mlook (pendG LL) v).getD []).length≤n*100000:=by
     intro n
     induction n with
     | zero=>simp
     | succ n ih =>
      rw [List.take_add_one,List.flatMap_append,List.length_append]
      have:((VS[n]?).toList.flatMap fun v=>(mlook (pendG LL) v).getD []).length≤100000:=by
       cases hv:VS[n]? with
       | none=>simp
       | some v =>
        obtain ⟨y,hy⟩:=hgr v (List.mem_of_getElem? hv)
        have:=(hR8 _ (mlook_in hy))
        simp only [Option.toList_some,List.flatMap_cons,List.flatMap_nil,List.append_nil]
        rw [hpend,hy]
        have h1:=this.1.len
        have h2:=this.2
        simp only at h1 h2
        simp only [Option.map_some,Option.getD_some]
        omega
      omega
    refine Cb_of (fun hc=>?_) (fun hc=>?_)
    ·have hc:t'<ol:=by
      have:(t':Int)<(ol:Int):=by simpa using hc
      omega
     have ek:IntKind.wrap .i64 ((t':Int)+1)=((t'+1:Nat):Int):=by rw [wrapI (by omega) (by omega)];omega
     obtain ⟨v,hv⟩:∃ v,VS[t']? = some v:=⟨_,List.getElem?_eq_getElem (by omega)⟩
     obtain ⟨y,hy⟩:=hgr v (List.mem_of_getElem? hv)
     refine (o8.sl.keepB k9 (by simp)).ld0 (i:=(t':Int)) (n:=1) (x:=v) (v:=.int .u64 v) rfl (by omega) (by rw [Int.toNat_natCast];exact hv) rfl (zA.2 ?_)
     refine DoQ_of (fun d=>run_lookup (P:=Tryz.prog) under_grps under_u64 (z:=.slice none 0 0) (fun w=>run_zeroValue (i:=(Tryz.prog.info? 75).get (by kernel_rfl)) (by kernel_rfl) (by kernel_rfl)) ((hG8.keep k9 (by simp)).dr d) v false) ?_
     show OpS ((mlook (tag hdrG H) v).getD (.slice none 0 0)) _
     rw [look_tag,hy]
     refine zC.2 ?_
     have hy8:=hR8 _ (mlook_in hy)
     have hyl:=hy8.1.len
     have hal:=o9.length
     have hfl:=hflat t'
     obtain ⟨p10,c10,w10,hr10,o10,k10,hw10⟩:=run_appendF puLayT o9 (hy8.1.sl.keepB k9 (by simp)) (ty:=75) (c2:=y.1.2.2) (by have:=hy8.2;simp only at this;omega) (by have:=hy8.2;simp only at this;simp only [maxLen];omega) (by have:=k9.size;have:=k08.size;omega)
     refine ⟨_,_,hr10,zC.2 ?_⟩
     have k10':Keep (fun k=>w8.heap.size≤k) w9 w10:=k10.mono fun k hk=>hap k hk
     refine ⟨_,by show ((ol:Int)-IntKind.wrap .i64 ((t':Int)+1)).toNat<((ol:Int)-(t':Int)).toNat;rw [ek];omega,⟨t'+1,ek,by omega,?_,?_,k9.trans' k10' fun i hi e=>by omega⟩,rfl⟩
     ·have e:((VS.take (t'+1)).flatMap fun v=>(mlook (pendG LL) v).getD [])=((VS.take t').flatMap fun v=>(mlook (pendG LL) v).getD [])++y.2:=by
       rw [List.take_add_one,hv,List.flatMap_append]
       simp only [Option.toList_some,List.flatMap_cons,List.flatMap_nil,List.append_nil]
       rw [hpend,hy]
       rfl
      show OwnL puLay w10 m1 88 p10 (al+y.1.2.1) c10 _
      rw [e]
      exact o10
     ·intro k hk
      rcases hw10 with e | e
      ·exact hap k (e ▸ hk)
      ·have hk:p10=some ⟨k,0,none⟩:=hk
       rw [e] at hk
       cases hk
       exact k9.size
    ·have hc:t'=ol:=by
      have:¬ (t':Int)<(ol:Int):=by simpa using hc
      omega
     refine Ret_nil.2 ?_
     rw [List.take_of_length_le (by omega)] at o9
     have e:(VS.flatMap fun v=>(mlook (pendG LL) v).getD [])=pendS LL:=by unfold pendS;rw [hVS]
     rw [e] at o9
     have e9:=o9.length
     subst e9
     exact hK ap ac w9 o9 (k08.trans k9)
   ·refine ⟨_,_,hr8,Or.inl ⟨_,_,rfl,?_⟩⟩
    refine DoQ_of (fun d=>run_entryM (hA8.keep (Keep.drew (fun _=>False) w8 d) (by simp) (by simp))) ?_
    refine T2_mk.2 (zA.2 ?_)
    refine ⟨_,_,bsl_u1 _ w8,zC.2 ?_⟩
    have k9:=Keep.new (fun _=>False) w8 (.cells #[.int .u64 x] 39)
    have hb9:=Has.new w8 (.cells #[.int .u64 x] 39)
    have zri8:ri<w8.heap.size:=hI8.lt.1
    generalize w8.alloc (.cells #[.int .u64 x] 39)=w9 at *
    have hI9:=hI8.keep k9 (by simp) (by simp)
    have hrow8:∀ k,op=some ⟨k,0,none⟩→¬ k=ri:=fun k hk e=>by have:=(o7.lt hk).1;omega
    have o9:OwnL uLay w9 (ri+1) 39 op ol oc vs:=(o7.keep k8 hrow8).keep k9 (by simp)
    have hplen:=hp8.length_eq
    simp only [List.length_cons] at hplen
    obtain ⟨p10,c10,w10,hr10,o10,k10,_⟩:=run_appendF1 uLayT o9 (y:=x) hb9 rfl (ty:=302) (by omega) (by simp only [maxLen];omega) (by have:=k9.size;omega) (c2:=1)
    refine ⟨_,_,hr10,zC.2 ?_⟩
    have k10':Keep (fun k=>ri+1≤k) w9 w10:=k10.mono fun k hk=>(o9.lt hk).1
    have k7_10:Keep (fun i=>ri≤i) w7 w10:=((k8.mono fun k e=>by omega).trans (k9.mono fun _ h=>h.elim)).trans (k10'.mono fun k e=>by omega)
    have hm2r:m2<ri:=by omega
    refine ⟨_,by show H.length-(ol+1)<H.length-ol;omega,⟨vs++[x],left',k7.trans' k7_10 fun i hi e=>by omega,k67.trans k7_10,hG7.keep k7_10 (by omega),?_,?_,o10,?_⟩,rfl⟩
    ·refine ((hR7.keep k8 fun k cur hk e=>?_).keep k9 (by simp)).keep k10 fun k cur hk e=>?_
     ·obtain ⟨since,seen,c0,arr,clk,es,g1,_⟩:=hI7
      rw [e] at hk
      exact absurd (hk.symm.trans g1) (by simp)
     ·rcases Own.cases o9 with ⟨h0,_⟩ | ⟨b',cur',h0,_,hg',_⟩
      ·rw [h0] at e;cases e
      ·rw [h0] at e;cases e
       have:=hk.inj hg'
       simp only [Obj.cells.injEq] at this
       exact absurd this.2.1 (by decide)
    ·exact hI9.keep k10' (by omega) (by omega)
    ·refine List.Perm.trans ?_ hp7
     rw [List.append_assoc]
     exact List.Perm.append_left _ (by simpa using (hp8.map (·.1)).symm)
theorem i_RedoG {N:Nat} (hs:SortTo N) {g:Geo} {m:Nat} {bks:List (Nat×Nat)} {s:SS} {base:Nat} {dp:Option Addr} {dc:Nat} (hS:SetAt w ⟨m,g,bks⟩ s) (hDk:OwnL dLay w base 111 dp g.d.toNat dc (bks.map Prod.fst)) {ep:Int} {lp:Option Addr} {ll lc:Nat} {Q:List (Option Addr×Nat×Nat)} {LL:List (List Rec)} (h:SlL hLay w lp ll Q) (hQ:Q.length=LL.length)
  (hq:∀ (i:Nat) (q:Option Addr×Nat×Nat) (rs:List Rec),Q[i]? = some q→LL[i]? = some rs→SlL rLay w q.1 q.2.1 rs∧q.2.1≤q.2.2) (hll:ll≤1000) (hl:LL.flatten.length≤100000) (hlba:∀ x∈LL.flatten,0≤x.lba∧x.lba≤2147483647)
  (hver:∀ x∈LL.flatten,0≤x.ver∧x.ver≤18446744073709551615) (hN:(pendG LL).length≤N) (hN2:N≤1000) (hP:(pendS LL).length≤1000000)
  (hK:∀ w',SetAt w' ⟨m,g,bks⟩ (applyS g s (pendS LL) ep).2→Keep (SFoot ⟨m,g,bks⟩) w w'→R (.int .i64 (applyS g s (pendS LL) ep).1) w') :
  zB Tryz.prog 61 #[.agg (setV g dp g.d.toNat dc),.int .u32 ep,.slice lp ll lc] w R:=by
 apply C_intent_Redo
 unfold F_intent_Redo
 refine alc_fresh fun w1 hb1 k1 z1=>?_
 refine LdA_all hb1 rfl ?_
 refine st_Check (hS.keep0 k1) (hDk.keep k1 (by simp)).sl hDk.cap.1 fun w2 k2=>zA.2 ((Cb_false (p:=_)).2 ?_)
 have k02:=k1.trans k2
 have hb2:=k2.has hb1 (by simp)
 refine ⟨fun st' w'=>SetAt w' ⟨m,g,bks⟩ (applyS g s (pendS LL) ep).2∧Keep (SFoot ⟨m,g,bks⟩) w w'∧st'.1=(applyS g s (pendS LL) ep).1,?_,?_⟩
 ·intro d
  have kd:=k02.trans (Keep.drew (fun _=>False) w2 d)
  have hb3:=hb2.dr d
  generalize w2.dr d=w3 at *
  refine ⟨fun w'=>Has w' w.heap.size (.cells (setV g dp g.d.toNat dc) 51 (0,0)),hb3,?_⟩
  refine LdA_of (cs:=setV g dp g.d.toNat dc) rfl (fun w' hw=>⟨_,_,_,hw,Nat.le_refl 4,rfl⟩) ?_
  refine i_PendingG hs (h.keepB kd (by simp)) hQ (fun i q rs h1 h2=>⟨((hq i q rs h1 h2).1).keepB kd (by simp),(hq i q rs h1 h2).2⟩) hll hl hlba hver hN hN2 fun p' c' w4 o4 k4=>zC.2 ⟨k4.has hb3 (by simp),?_⟩
  have k04:=kd.trans k4
  have hb4:=k4.has hb3 (by simp)
  have hS4:=hS.keep0 k04
  have hD4:=hDk.keep k04 (by simp)
  refine st_Apply hS4 hD4.sl hD4.cap.1 (fun b o e hb=>?_) o4.sl hP (fun b o e hb=>?_) fun w5 hS5 k5=>zA.2 ⟨k5.has hb4 (hS4.typ hb4 (by decide) (by decide) (by decide)),hS5,((k04.mono fun _ h=>h.elim).trans k5),rfl⟩
  ·obtain ⟨_,cur,hh⟩:=own_has hD4 b o e
   exact hS4.typ hh (by decide) (by decide) (by decide) hb
  ·obtain ⟨_,cur,hh⟩:=own_has o4 b o e
   exact hS4.typ hh (by decide) (by decide) (by decide) hb
 ·rintro _ ⟨n,u⟩ w3 ⟨h1,h2,h3⟩
  simp only at h3 ⊢
  subst h3
  exact Ret_nil.2 (hK w3 h1 h2)
end calls
end Go.Proofs
namespace Go.Proofs
open Go Go.Ev
set_option maxRecDepth 100000
theorem Inv.see {g:Geo} {s s':SS} {now:Int→Sec} (hg:GeoOk g) (h:Inv g s now) (hv:∀ i a,0≤i→0≤a→viewS s' i a=viewS s i a):Inv g s' now:=by
 intro st off hst hof k hk f hf
 obtain ⟨pk1,pk2⟩:=plcP_ok hg hst hof (k:Int)
 exact h st off hst hof k hk f (by rw [← hv _ _ pk1.1 pk2.1];exact hf)
end Go.Proofs
namespace Go.Proofs
open Go.Ev
set_option maxRecDepth 100000
def F_intent_Write (s:Array Value) (ramsp:Option Addr) (ramsl:Nat) (ramsc:Nat) (version:Int) (lba:Int) (data:Array Value) (epoch:Int) (w:World) (R:Value→World→Prop):Prop :=
 Alc 51 s w fun b w=>Alc 37 data w fun b1 w=>LdA 4 b 0 (At w) fun cs=>LdA 16 b1 0 (At w) fun cs1=>zB Tryz.prog 35 #[.agg cs,.int .i64 lba,.agg cs1] w fun v w
 => T2 v fun v1 v2=>OpS v1 fun p l c=>OpI .i64 v2 fun n=>Cb (n !=0) (Ret [] (R (.int .i64 n) w)) (zB Tryz.prog 131 #[.slice ramsp ramsl ramsc,.int .u64 version,
 .slice p l c] w fun v3 w=>OpI .i64 v3 fun n1=>Cb (n1 !=0) (Ret [] (R (.int .i64 n1) w)) (LdA 4 b 0 (At w) fun cs2=>zB Tryz.prog 38 #[.agg cs2,.slice p l c,.int
 .u32 epoch] w fun v4 w=>OpI .i64 v4 fun n2=>Cb (n2 !=0) (Ret [] (R (.int .i64 n2) w)) (zB Tryz.prog 133 #[.slice ramsp ramsl ramsc,.int .u64 version] w fun v5 w
 => OpI .i64 v5 fun n3=>Ret [] (R (.int .i64 n3) w))))
theorem C_intent_Write {s:Array Value} {ramsp:Option Addr} {ramsl:Nat} {ramsc:Nat} {version:Int} {lba:Int} {data:Array Value} {epoch:Int} {w:World} {R:Value→World→Prop} (h:F_intent_Write s ramsp ramsl ramsc version lba data epoch w R):zB Tryz.prog 57 #[.agg s,.slice ramsp ramsl ramsc,.int .u64 version,.int .i64 lba,.agg data,.int .u32 epoch] w R:=by
 exact zE (args:=[.agg s,.slice ramsp ramsl ramsc,.int .u64 version,.int .i64 lba,.agg data,.int .u32 epoch]) (mkAnn [] [] [] [] []) zD Tryz.func57 rfl rfl (by kernel_rfl) h
end Go.Proofs
namespace Go.Proofs
open Go Go.Ev Go.RowKit
set_option maxRecDepth 100000
structure StmAt (w:World) (q:MB) (g:Geo) (bks:List (Nat×Nat)) (base:Nat) (dp:Option Addr) (dc:Nat) (s:SS) (xa xb:List Int):Prop where
 set:SetAt w ⟨q.m,g,bks⟩ s
 disks:OwnL dLay w base 111 dp g.d.toNat dc (bks.map Prod.fst)
 mems:MemsAt w q ⟨s.pw,xa,xb⟩
def WFoot (q:MB) (g:Geo) (bks:List (Nat×Nat)) (w:World) (k:Nat):Prop:=MFoot q w k∨SFoot ⟨q.m,g,bks⟩ k
section plain
variable {w w1 w2:World} {q:MB} {g:Geo} {bks:List (Nat×Nat)} {base:Nat} {dp:Option Addr} {dc:Nat} {s:SS} {xa xb:List Int}
theorem WFoot.trans (h:Keep (WFoot q g bks w) w w1) (k:Keep (WFoot q g bks w1) w1 w2):Keep (WFoot q g bks w) w w2 :=
 h.trans' k fun i hi hf=>Classical.byContradiction fun hn=>by
  rcases hf with (e | e | e | ⟨hb,cs,hc⟩) | e
  ·exact hn (Or.inl (Or.inl e))
  ·exact hn (Or.inl (Or.inr (Or.inl e)))
  ·exact hn (Or.inl (Or.inr (Or.inr (Or.inl e))))
  ·exact hn (Or.inl (Or.inr (Or.inr (Or.inr ⟨hb,cs,(h.block i hi hn).symm.trans hc⟩))))
  ·exact hn (Or.inr e)
theorem WFoot.none (h:Keep (fun _=>False) w w1):Keep (WFoot q g bks w) w w1:=h.mono fun _ h=>h.elim
theorem WFoot.ofM (h:Keep (MFoot q w) w w1):Keep (WFoot q g bks w) w w1:=h.mono fun _ h=>Or.inl h
theorem WFoot.ofS (h:Keep (SFoot ⟨q.m,g,bks⟩) w w1):Keep (WFoot q g bks w) w w1:=h.mono fun _ h=>Or.inr h
theorem StmAt.share (h:StmAt w q g bks base dp dc s xa xb) {i:Nat} (hm:MFoot q w i) (hs:SFoot ⟨q.m,g,bks⟩ i):i=q.m:=by
 obtain ⟨_,_,_,_,_,_,ha,hb,_⟩:=h.mems.rams
 rcases hm with e | e | e | ⟨_,cs,hc⟩
 ·exact e
 ·subst e;exact absurd hs (h.set.typ ha.cells (by decide) (by decide) (by decide))
 ·subst e;exact absurd hs (h.set.typ hb.cells (by decide) (by decide) (by decide))
 ·exact absurd hs (h.set.typ hc (by decide) (by decide) (by decide))
theorem StmAt.keep0 (h:StmAt w q g bks base dp dc s xa xb) (k:Keep (fun _=>False) w w1):StmAt w1 q g bks base dp dc s xa xb:=⟨h.set.keep0 k,h.disks.keep k (by simp),h.mems.keep k⟩
theorem StmAt.ofMems (h:StmAt w q g bks base dp dc s xa xb) {s':MS} (hm:MemsAt w1 q s') (k:Keep (MFoot q w) w w1):StmAt w1 q g bks base dp dc ⟨s.ds,s'.pw⟩ s'.xa s'.xb :=
 ⟨h.set.pow k (fun i hs hm=>h.share hm hs) hm.main,MFoot.own k h.disks h.mems (by decide) (by decide) (by decide),hm⟩
theorem StmAt.ofSet (h:StmAt w q g bks base dp dc s xa xb) {s':SS} (hs:SetAt w1 ⟨q.m,g,bks⟩ s') (k:Keep (SFoot ⟨q.m,g,bks⟩) w w1):StmAt w1 q g bks base dp dc s' xa xb :=
 ⟨hs,h.disks.keep k fun b hb=>by
  obtain ⟨_,cur,hh⟩:=own_has h.disks b 0 hb
  exact h.set.typ hh (by decide) (by decide) (by decide),h.mems.pow k (fun i hm hs=>h.share hm hs) hs.main⟩
theorem WFoot.not (h:StmAt w q g bks base dp dc s xa xb) {k:Nat} {cs:Array Value} {t:TypeId} {f:Nat×Nat} (hk:Has w k (.cells cs t f)) (h1:t≠5) (h2:t≠209) (h3:t≠214) (h4:t≠220) (h5:t≠260):¬ WFoot q g bks w k:=by
 rintro (e | e)
 ·exact MFoot.not hk h.mems h1 h2 h3 e
 ·exact h.set.typ hk h2 h4 h5 e
theorem WFoot.has (h:StmAt w q g bks base dp dc s xa xb) (k:Keep (WFoot q g bks w) w w1) {i:Nat} {cs:Array Value} {t:TypeId} {f:Nat×Nat} (hk:Has w i (.cells cs t f)) (h1:t≠5) (h2:t≠209) (h3:t≠214) (h4:t≠220) (h5:t≠260):Has w1 i (.cells cs t f) :=
 k.has hk (WFoot.not h hk h1 h2 h3 h4 h5)
theorem WFoot.slt (h:StmAt w q g bks base dp dc s xa xb) (k:Keep (WFoot q g bks w) w w1) {α:Type} {L:Lay α} {t:TypeId} {p:Option Addr} {l c:Nat} {xs:List α} (ho:SlT L w t p l c xs) (h1:t≠5) (h2:t≠209) (h3:t≠214) (h4:t≠220) (h5:t≠260):SlT L w1 t p l c xs :=
 ho.keepB k fun i cur hk=>WFoot.not h hk h1 h2 h3 h4 h5
end plain
def writeM (sz:Int) (g:Geo) (fs:List Bool) (v lba:Int) (data:Sec) (ep:Int) (s:SS) (xa xb:List Int):Int×SS×List Int×List Int :=
 if (planS g s lba data).2≠0 then ((planS g s lba data).2,s,xa,xb)
 else
  let b:=beginM sz v (planS g s lba data).1 fs ⟨s.pw,xa,xb⟩
  if b.1≠0 then (b.1,⟨s.ds,b.2.pw⟩,b.2.xa,b.2.xb)
  else
   let a:=applyS g ⟨s.ds,b.2.pw⟩ (planS g s lba data).1 ep
   if a.1≠0 then (a.1,a.2,b.2.xa,b.2.xb)
   else
    let e:=eachM sz (recK 5 v) fs ⟨a.2.pw,b.2.xa,b.2.xb⟩
    (e.1,⟨a.2.ds,e.2.pw⟩,e.2.xa,e.2.xb)
section calls
variable {w:World} {q:MB} {g:Geo} {bks:List (Nat×Nat)} {base:Nat} {dp:Option Addr} {dc:Nat} {s:SS} {xa xb:List Int} {R:Value→World→Prop}
theorem planS_len {g:Geo} {s:SS} {lba:Int} {data:Sec}:(planS g s lba data).1.length≤3:=by
 unfold planS
 simp only
 split
 ·simp
 ·split
  ·exact Nat.le_trans (List.length_filterMap_le _ _) (by simp)
  ·simp
theorem i_WriteM (h:StmAt w q g bks base dp dc s xa xb) (hok:∀ D∈s.ds,DskOk D) {fs:List Bool} {rp:Option Addr} {rl rc:Nat} (hr:SlT dLay w 104 rp rl rc (fs.map (ramM q))) (hrl:rl≤1000000) {v lba ep:Int} (h0:0≤lba) (h1:lba<(g.d-2)*g.c*g.s) {data:Sec} (hd:SecOk data)
  (hK:∀ w',StmAt w' q g bks base dp dc (writeM q.sz g fs v lba data ep s xa xb).2.1 (writeM q.sz g fs v lba data ep s xa xb).2.2.1 (writeM q.sz g fs v lba data ep s xa xb).2.2.2→Keep (WFoot q g bks w) w w'→R (.int .i64 (writeM q.sz g fs v lba data ep s xa xb).1) w') :
  zB Tryz.prog 57 #[.agg (setV g dp g.d.toNat dc),.slice rp rl rc,.int .u64 v,.int .i64 lba,.agg (secV data),.int .u32 ep] w R:=by
 apply C_intent_Write
 unfold F_intent_Write
 refine alc_fresh fun w1 hb1 k1 z1=>?_
 refine alc_fresh fun w2 hb2 k2 z2=>?_
 have k02:=k1.trans k2
 have hs2:=k2.has hb1 (by simp)
 refine LdA_all hs2 rfl ?_
 refine LdA_all hb2 rfl ?_
 have h2:=h.keep0 k02
 have hr2:=hr.keep k02 (by simp)
 refine st_Plan (q:=⟨q.m,g,bks⟩) h2.set h2.disks.sl h2.disks.cap.1 hok h0 h1 hd fun pp pc w3 o3 k3=>T2_mk.2 (zC.2 (zA.2 ?_))
 have o3:OwnL puLay w3 w2.heap.size 88 pp (planS g s lba data).1.length pc (planS g s lba data).1:=o3
 have h3:=h2.keep0 k3
 have hr3:=hr2.keep k3 (by simp)
 have k03:=k02.trans k3
 have hs3:=k3.has hs2 (by simp)
 have hlen:=planS_len (g:=g) (s:=s) (lba:=lba) (data:=data)
 have p3:=SlT.of o3
 generalize hw:writeM q.sz g fs v lba data ep s xa xb=W at *
 unfold writeM at hw
 show Cb ((planS g s lba data).2 !=0) _ _
 generalize planS g s lba data=P at *
 refine Cb_of (fun hc=>?_) (fun hc=>?_)
 ·have hc:P.2≠0:=by simpa using hc
  rw [if_pos hc] at hw
  subst hw
  exact Ret_nil.2 (hK w3 h3 (WFoot.none k03))
 have hc:P.2=0:=by simpa using hc
 rw [if_neg (by simp [hc])] at hw
 simp only at hw
 refine i_BeginM h3.mems hr3 hrl p3 fun w4 m4 k4=>zA.2 ?_
 have h4:=h3.ofMems m4 k4
 have k04:Keep (WFoot q g bks w) w w4:=WFoot.trans (WFoot.none k03) (WFoot.ofM k4)
 have hs4:=MFoot.has k4 hs3 h3.mems (by decide) (by decide) (by decide)
 have hr4:=MFoot.slt k4 hr3 h3.mems (by decide) (by decide) (by decide)
 have p4:=MFoot.slt k4 p3 h3.mems (by decide) (by decide) (by decide)
 generalize beginM q.sz v P.1 fs ⟨s.pw,xa,xb⟩=B at *
 refine Cb_of (fun hc=>?_) (fun hc=>?_)
 ·have hc:B.1≠0:=by simpa using hc
  rw [if_pos hc] at hw
  subst hw
  exact Ret_nil.2 (hK w4 h4 k04)
 have hc:B.1=0:=by simpa using hc
 rw [if_neg (by simp [hc])] at hw
 refine LdA_all hs4 rfl ?_
 refine st_Apply (q:=⟨q.m,g,bks⟩) h4.set h4.disks.sl h4.disks.cap.1 (fun b o e=>?_) p4.sl (by omega) (fun b o e=>?_) fun w5 s5 k5=>zA.2 ?_
 ·obtain ⟨_,cur,hh⟩:=own_has h4.disks b o e
  exact h4.set.typ hh (by decide) (by decide) (by decide)
 ·obtain ⟨cur,hh⟩:=p4.ty _ e
  exact h4.set.typ hh (by decide) (by decide) (by decide)
 have h5:=h4.ofSet s5 k5
 have k05:=WFoot.trans k04 (WFoot.ofS k5)
 have hr5:=WFoot.slt h4 (WFoot.ofS k5) hr4 (by decide) (by decide) (by decide) (by decide) (by decide)
 have ea:applyS (SB.mk q.m g bks).g ⟨s.ds,B.2.pw⟩ P.1 ep=applyS g ⟨s.ds,B.2.pw⟩ P.1 ep:=rfl
 rw [ea] at h5 s5 ⊢
 generalize applyS g ⟨s.ds,B.2.pw⟩ P.1 ep=A at *
 refine Cb_of (fun hc=>?_) (fun hc=>?_)
 ·have hc:A.1≠0:=by simpa using hc
  rw [if_pos hc] at hw
  subst hw
  exact Ret_nil.2 (hK w5 h5 k05)
 have hc:A.1=0:=by simpa using hc
 rw [if_neg (by simp [hc])] at hw
 refine i_EndM h5.mems hr5 hrl fun w6 m6 k6=>zA.2 (Ret_nil.2 ?_)
 subst hw
 exact hK w6 (h5.ofMems m6 k6) (WFoot.trans k05 (WFoot.ofM k6))
end calls
end Go.Proofs
namespace Go.Proofs
open Go.Shelf
def Tryz.sortRec_ren:Go.Shelf.Ren:=⟨fun | 6=>231 | 15=>251 | 14=>265 | 28=>284 | 29=>285 | 20=>287 | 21=>288 | 22=>289 | 23=>290 | 24=>291 | 25=>292 | 26=>293 | 27=>294 | 46=>300 | 47=>296 | 48=>297 | 49=>301 | 50=>302 | 57=>304 | n=>n,fun | 22=>113 | 24=>246 | 25=>336 | 3=>3 | 39=>154 | 0=>0 | 53=>62 | 55=>39 | 4=>4 | 46=>370 | 45=>369 | 50=>251 | 5=>5 | 9=>9 | 66=>384 | 70=>387 | 76=>391 | 77=>268 | n=>n,fun | n=>n⟩
theorem Tryz.sortRec:Go.Proofs.SlLaysF0.n6 Tryz.prog Tryz.sortRec_ren:={
 mixed:=by kernel_rfl
 f6:=⟨Tryz.f231.name,by decide,Tryz.func231.trans (congrArg some (by kernel_rfl))⟩
 f14:=⟨Tryz.f265.name,by decide,Tryz.func265.trans (congrArg some (by kernel_rfl))⟩
 f15:=Tryz.func251.trans (congrArg some (by kernel_rfl))
 f20:=⟨Tryz.f287.name,by decide,Tryz.func287.trans (congrArg some (by kernel_rfl))⟩
 f21:=⟨Tryz.f288.name,by decide,Tryz.func288.trans (congrArg some (by kernel_rfl))⟩
 f22:=⟨Tryz.f289.name,by decide,Tryz.func289.trans (congrArg some (by kernel_rfl))⟩
 f23:=⟨Tryz.f290.name,by decide,Tryz.func290.trans (congrArg some (by kernel_rfl))⟩
 f24:=⟨Tryz.f291.name,by decide,Tryz.func291.trans (congrArg some (by kernel_rfl))⟩
 f25:=⟨Tryz.f292.name,by decide,Tryz.func292.trans (congrArg some (by kernel_rfl))⟩
 f26:=⟨Tryz.f293.name,by decide,Tryz.func293.trans (congrArg some (by kernel_rfl))⟩
 f27:=⟨Tryz.f294.name,by decide,Tryz.func294.trans (congrArg some (by kernel_rfl))⟩
 f28:=Tryz.func284.trans (congrArg some (by kernel_rfl))
 f29:=Tryz.func285.trans (congrArg some (by kernel_rfl))
 f46:=⟨Tryz.f300.name,by decide,Tryz.func300.trans (congrArg some (by kernel_rfl))⟩
 f47:=Tryz.func296.trans (congrArg some (by kernel_rfl))
 f48:=Tryz.func297.trans (congrArg some (by kernel_rfl))
 f49:=⟨Tryz.f301.name,by decide,Tryz.func301.trans (congrArg some (by kernel_rfl))⟩
 f50:=⟨Tryz.f302.name,by decide,Tryz.func302.trans (congrArg some (by kernel_rfl))⟩
 f57:=⟨Tryz.f304.name,by decide,Tryz.func304.trans (congrArg some (by kernel_rfl))⟩
 t0:=Tryz.underlying0
 a0:=Tryz.isAgg0
 z0:=Tryz.sizeOf0
 v0:=Tryz.zeroValue0
 t3:=Tryz.underlying3
 a3:=Tryz.isAgg3
 z3:=Tryz.sizeOf3
 v3:=Tryz.zeroValue3
 t4:=Tryz.underlying4
 a4:=Tryz.isAgg4
 z4:=Tryz.sizeOf4
 v4:=Tryz.zeroValue4
 t5:=Tryz.underlying5
 a5:=Tryz.isAgg5
 z5:=Tryz.sizeOf5
 v5:=Tryz.zeroValue5
 t9:=Tryz.underlying9
 a9:=Tryz.isAgg9
 z9:=Tryz.sizeOf9
 v9:=Tryz.zeroValue9
 t22:=Tryz.underlying113
 a22:=Tryz.isAgg113
 z22:=Tryz.sizeOf113
 v22:=Tryz.zeroValue113
 t25:=Tryz.underlying336
 a25:=Tryz.isAgg336
 z25:=Tryz.sizeOf336
 v25:=Tryz.zeroValue336
 t39:=Tryz.underlying154
 a39:=Tryz.isAgg154
 z39:=Tryz.sizeOf154
 v39:=Tryz.zeroValue154
 t45:=Tryz.underlying369
 a45:=Tryz.isAgg369
 z45:=Tryz.sizeOf369
 v45:=Tryz.zeroValue369
 t46:=Tryz.underlying370
 a46:=Tryz.isAgg370
 z46:=Tryz.sizeOf370
 v46:=Tryz.zeroValue370
 t50:=Tryz.underlying251
 a50:=Tryz.isAgg251
 z50:=Tryz.sizeOf251
 v50:=Tryz.zeroValue251
 t53:=Tryz.underlying62
 a53:=Tryz.isAgg62
 z53:=Tryz.sizeOf62
 v53:=Tryz.zeroValue62
 t55:=Tryz.underlying39
 a55:=Tryz.isAgg39
 z55:=Tryz.sizeOf39
 v55:=Tryz.zeroValue39
 t66:=Tryz.underlying384
 a66:=Tryz.isAgg384
 z66:=Tryz.sizeOf384
 v66:=Tryz.zeroValue384
 t70:=Tryz.underlying387
 a70:=Tryz.isAgg387
 z70:=Tryz.sizeOf387
 v70:=Tryz.zeroValue387
 t76:=Tryz.underlying391
 a76:=Tryz.isAgg391
 z76:=Tryz.sizeOf391
 v76:=Tryz.zeroValue391
 t77:=Tryz.underlying268
 a77:=Tryz.isAgg268
 z77:=Tryz.sizeOf268
 v77:=Tryz.zeroValue268 }
end Go.Proofs
namespace Go.Proofs
open Go Go.Ev Go.Sort
set_option maxRecDepth 100000
theorem get_flat {d:Array Rec} {t:Nat} (h:t<d.size*19):(d.toList.flatMap recL)[t]? = some ((flatK recL 19 d)[t]!):=by
 rw [get_flatK _ _ _ _ h]
 have h1:t / 19<d.size:=by omega
 have h2:t % 19<19:=by omega
 have hg:=get_rows (rows_len d.toList) (i:=t / 19) (r:=recL d[t / 19]) (by simp [h1]) (t % 19) h2
 rw [flatMap_rows]
 have e:t / 19*19+t % 19=t:=by omega
 rw [e] at hg
 rw [hg,getElem!_pos d (t / 19) h1]
 have h3:t % 19<(recL d[t / 19]).length:=by simpa using h2
 rw [List.getElem?_eq_getElem h3,getElem!_pos (recL d[t / 19]) (t % 19) h3]
theorem swk_own {w:World} {base:Nat} {T:TypeId} {b l c:Nat} {xs:List Value} (h:Own w base T 19 (some ⟨b,0,none⟩) l c xs) (d:Array Rec) (hd:d.size=l) (n:Nat) (os:Array Obj) :
  Own (sortWorldK recL 19 w b 0 n d os) base T 19 (some ⟨b,0,none⟩) l c (d.toList.flatMap recL)∧Keep (fun k=>k=b) w (sortWorldK recL 19 w b 0 n d os):=by
 rcases h.cases with ⟨h,_⟩ | ⟨b',cur,hp,hb,hg,hle,hm,hs,ht⟩
 ·cases h
 cases hp
 have hbs:=hg.lt
 have hh:∀ k,k<w.heap.size→(sortWorldK recL 19 w b 0 n d os).heap[k]? = (if b=k then (w.heap[k]?).map (onCells (putCells id 0 (flatK recL 19 d))) else w.heap[k]?):=by
  intro k hk
  show ((w.heap.modify b (onCells (putCells id 0 (flatK recL 19 d))))++os)[k]? = _
  rw [Array.getElem?_append_left (by simpa using hk),Array.getElem?_modify]
 refine ⟨Own.mk (cur:=putCells id 0 (flatK recL 19 d) cur) hb ?_ hle hm (by simp [putCells,hs]) ?_,⟨rfl,rfl,rfl,?_,fun k hk hS=>?_⟩⟩
 ·unfold Has
  rw [hh b hbs,if_pos rfl]
  unfold Has at hg
  rw [hg]
  rfl
 ·apply List.ext_getElem?
  intro i
  by_cases hi:i<l*19
  ·rw [List.getElem?_take_of_lt hi,get_flat (by rw [hd];exact hi)]
   have hc:i<cur.size:=by rw [hs];have:l*19≤c*19:=Nat.mul_le_mul_right _ hle;omega
   rw [Array.getElem?_toList]
   unfold putCells
   rw [Array.getElem?_mapIdx,Array.getElem?_eq_getElem hc]
   simp [hd,hi]
  ·rw [List.getElem?_eq_none (by rw [List.length_take];omega),List.getElem?_eq_none]
   rw [flatMap_rows,length_rows (rows_len _)]
   simp [hd];omega
 ·show w.heap.size≤((w.heap.modify b _)++os).size
  simp
 ·rw [hh k hk,if_neg (fun e=>hS e.symm)]
theorem cmpI_lt {x y:Int}:cmpI x y<0 ↔ x<y:=by unfold cmpI;split <;> (try split) <;> omega
theorem cmpI_z {x y:Int}:cmpI x y=0 ↔ x=y:=by unfold cmpI;split <;> (try split) <;> omega
theorem cmpR_lt {r s:Rec}:cmpR r s<0 ↔ r.ver<s.ver∨r.ver=s.ver∧r.lba<s.lba:=by
 unfold cmpR
 split
 ·rename_i h
  rw [cmpI_lt]
  have:r.ver≠s.ver:=fun e=>h (cmpI_z.2 e)
  omega
 ·rename_i h
  have:r.ver=s.ver:=cmpI_z.1 (by omega)
  rw [cmpI_lt];omega
theorem swo_cmpR:SWO (ltOf cmpR) where
 irrefl x:=by simp [ltOf,cmpR_lt]
 trans x y z h1 h2:=by simp only [ltOf,decide_eq_true_eq,cmpR_lt] at *;omega
 ntrans x y z h1 h2:=by simp only [ltOf,decide_eq_false_iff_not,cmpR_lt] at *;omega
theorem cmpLays_of {g:Nat} (hg:∀ (r s:Rec) (w:World),Calls Tryz.prog g #[.agg (recV r),.agg (recV s)] w fun e w'=>e=.returned (.int .i64 (cmpR r s))∧∃ q os,w'=grow (w.drewN q) os) (blk off size:Nat) (w:World) :
  CmpLays Tryz.prog g #[] recL 19 cmpR blk off size w:=fun m os dk _ x y=>hg x y _
theorem sort_recs {g:Nat} (hg:∀ (r s:Rec) (w:World),Calls Tryz.prog g #[.agg (recV r),.agg (recV s)] w fun e w'=>e=.returned (.int .i64 (cmpR r s))∧∃ q os,w'=grow (w.drewN q) os)
  (eg:∀ args w,(callFunc g args).run Tryz.prog w=.ok (.enter g args) w) {w:World} {base:Nat} {T:TypeId} {b l c:Nat} {rs:List Rec} (h:Own w base T 19 (some ⟨b,0,none⟩) l c (rs.flatMap recL)) (hsz:l<4611686018427387904)
  {R:Value→World→Prop} (hK:∀ (rs':List Rec) (w':World),rs'.Perm rs→rs'.Pairwise (fun r s=>¬ cmpR s r<0)→Own w' base T 19 (some ⟨b,0,none⟩) l c (rs'.flatMap recL)→Keep (fun k=>k=b) w w'→R (.tuple #[]) w') :
  zB Tryz.prog 231 #[.slice (some ⟨b,0,none⟩) l c,.func (.func g) #[] #[]] w R:=by
 have hl:l=rs.length:=by
  have:=h
  rw [flatMap_rows] at this
  simpa using this.count (rows_len rs) (by decide)
 have hds:rs.toArray.size=l:=by simp [hl]
 have hlt:=h.lt rfl
 have hH:HoldsK recL 19 w b 0 rs.toArray:=by
  intro j hj
  have hj':j<l*19:=by simpa [hl] using hj
  rcases h.cases with ⟨h0,_⟩ | ⟨b',cur,hp,hb,hg,_⟩
  ·cases h0
  cases hp
  refine ⟨?_,?_⟩
  ·rw [Nat.zero_add,h.cell hj']
   have:=get_flat (d:=rs.toArray) (t:=j) (by rw [hds];exact hj')
   simpa using this
  ·exact frozen_of hg
 have:=AnyQ.slices_SortFunc Tryz.sortRec 19 (by intro w;kernel_rfl) (by intro w;kernel_rfl) recL (fun _=>rfl) one_recL' cmpR swo_cmpR g #[] b 0 c rs.toArray w eg (cmpLays_of hg b 0 _ w) hH hlt.2 (by rw [hds];exact hsz)
 rw [hds] at this
 refine Calls.mono this fun e w' ⟨he,d',n,os,hp,hs,hw⟩=>⟨_,he,?_⟩
 subst hw
 have hd':d'.size=l:=hp.1.trans hds
 obtain ⟨ho,hk⟩:=swk_own h d' hd' n os
 refine hK d'.toList _ ?_ ?_ ho hk
 ·have:=hp.2.2
  have e1:d'.extract 0 l=d':=by rw [← hd'];simp
  have e2:rs.toArray.extract 0 l=rs.toArray:=by rw [← hds];simp
  rw [e1,e2] at this
  simpa using this
 ·rw [List.pairwise_iff_getElem]
  intro i j hi hj hij
  have:=hs i j (Nat.zero_le _) hij (by simpa [hd'] using hj)
  rw [getElem!_pos d' j (by simpa using hj),getElem!_pos d' i (by simpa using hi)] at this
  simpa [ltOf] using this
end Go.Proofs
namespace Go.Proofs
open Go.Ev
set_option maxRecDepth 100000
def F_cache_Cache_List_1 (a:Array Value) (b:Array Value) (w:World) (R:Value→World→Prop):Prop :=
 Alc 246 a w fun b1 w=>Alc 246 b w fun b2 w=>Dr1 w fun w=>LdV b1 1 (At w) fun v=>OpI .u64 v fun n=>LdV b2 1 (At w) fun v1=>OpI .u64 v1 fun n1=>CallS Tryz.prog
 234 #[.int .u64 n,.int .u64 n1] w fun v2=>OpI .i64 v2 fun n2=>LdV b1 2 (At w) fun v3=>OpI .i64 v3 fun n3=>LdV b2 2 (At w) fun v4=>OpI .i64 v4 fun n4=>CallS
 Tryz.prog 235 #[.int .i64 n3,.int .i64 n4] w fun v5=>OpI .i64 v5 fun n5=>DoV Tryz.prog (Instr.buildSlice 69 2 #[(0,.int .i64 n2),(1,.int .i64 n5)]) w fun v6 w =>
 OpS v6 fun p l c=>zB Tryz.prog 233 #[.slice p l c] w fun v7 w=>OpI .i64 v7 fun n6=>Ret [] (R (.int .i64 n6) w)
theorem C_cache_Cache_List_1 {a:Array Value} {b:Array Value} {w:World} {R:Value→World→Prop} (h:F_cache_Cache_List_1 a b w R):zB Tryz.prog 286 #[.agg a,.agg b] w R:=by
 exact zE (args:=[.agg a,.agg b]) (mkAnn [] [] [] [] []) zD Tryz.func286 rfl rfl (by kernel_rfl) h
def F_cache_Cache_List (c:Nat) (w:World) (R:Value→World→Prop):Prop :=
 LdV c 1 (At w) fun v=>OpM v fun m=>DoV Tryz.prog (Instr.range 242 (.map m)) w fun v1 w=>OpN v1 fun b o=>LoopC (σ:=(Option Addr×Nat×Nat)×Unit) (fun _ s1 w
 K1=>DoV Tryz.prog (Instr.next (.pointer (some ⟨b,o,none⟩)) false 0) w fun v2 w=>OpX v2 (fun k x=>DoQ Tryz.prog (Instr.entry (.pointer (some ⟨b,o,none⟩))) (At w)
 fun v3=>T2 v3 fun v4 v5=>OpI .i64 v4 fun n=>OpA 17 v5 fun cs=>Alc 354 (zc Tryz.prog 354) w fun b1 w=>StA 17 b1 0 cs w fun w=>LdV b1 16 (At w) fun v6=>OpI
 .u64 v6 fun n1=>LdA 16 b1 0 (At w) fun cs1=>DoQ Tryz.prog (Instr.build 246 #[(0,.int .i64 1),(1,.int .u64 n1),(2,.int .i64 n),(3,.agg cs1)]) (At w) fun v7 =>
 OpA 19 v7 fun cs2=>DoV Tryz.prog (Instr.buildSlice 113 1 #[(0,.agg cs2)]) w fun v8 w=>OpS v8 fun p l c1=>DoV Tryz.prog (Builtin.append_ #[113,113] 113 #[.slice
 s1.1.1 s1.1.2.1 s1.1.2.2,.slice p l c1]) w fun v9 w=>OpS v9 fun p1 l1 c2=>K1 ((p1,l1,c2),()) w) (zB Tryz.prog 231 #[.slice s1.1.1 s1.1.2.1 s1.1.2.2,.func
 (.func 286) #[] #[]] w fun v10 w=>Ret [] (R (.slice s1.1.1 s1.1.2.1 s1.1.2.2) w))) ((none,0,0),()) w
theorem C_cache_Cache_List {c:Nat} {w:World} {R:Value→World→Prop} (h:F_cache_Cache_List c w R):zB Tryz.prog 262 #[.pointer (some ⟨c,0,none⟩)] w R:=by
 exact zE (args:=[.pointer (some ⟨c,0,none⟩)]) (mkAnn [(5,[(3,.slice)])] [] [] [(15,((.int .i64),(.agg 17)))] []) zD Tryz.func262 rfl rfl (by kernel_rfl) h
def F_cache_Cache_Next (c:Nat) (w:World) (R:Value→World→Prop):Prop :=
 Alc 246 (zc Tryz.prog 246) w fun b w=>zB Tryz.prog 262 #[.pointer (some ⟨c,0,none⟩)] w fun v w=>OpS v fun p l c1=>Cb (((l:Nat):Int)==0) (DoQ Tryz.prog
 (Instr.build 246 #[]) (At w) fun v1=>OpA 19 v1 fun cs=>StA 19 b 0 cs w fun w=>LdA 19 b 0 (At w) fun cs1=>Ret [] (R (.tuple #[.agg cs1,.int .i64 10]) w)) (IdxS p l
 0 19 fun b1 o=>LdA 19 b1 o (At w) fun cs2=>StA 19 b 0 cs2 w fun w=>LdA 19 b 0 (At w) fun cs3=>Ret [] (R (.tuple #[.agg cs3,.int .i64 0]) w))
theorem C_cache_Cache_Next {c:Nat} {w:World} {R:Value→World→Prop} (h:F_cache_Cache_Next c w R):zB Tryz.prog 227 #[.pointer (some ⟨c,0,none⟩)] w R:=by
 exact zE (args:=[.pointer (some ⟨c,0,none⟩)]) (mkAnn [] [] [] [] []) zD Tryz.func227 rfl rfl (by kernel_rfl) h
def F_cache_Cache_Clean (c:Nat) (lba:Int) (version:Int) (w:World) (R:Value→World→Prop):Prop :=
 zB Tryz.prog 225 #[.pointer (some ⟨c,0,none⟩),.int .i64 lba] w fun v w=>T3 v fun v1 v2 v3=>OpA 16 v1 fun cs=>OpI .u64 v2 fun n=>OpI .i64 v3 fun n1=>Alc 37
 (zc Tryz.prog 37) w fun b w=>StA 16 b 0 cs w fun w=>Cb (n1 !=0) (Ret [] (R (.int .i64 n1) w)) (Cb (decide (n>version)) (Ret [] (R (.int .i64 12) w)) (LdV c 1 (At w)
 fun v4=>OpM v4 fun m=>DoV Tryz.prog (Builtin.delete_ #[242,3] 0 #[.map m,.int .i64 lba]) w fun v5 w=>Ret [] (R (.int .i64 0) w)))
theorem C_cache_Cache_Clean {c:Nat} {lba:Int} {version:Int} {w:World} {R:Value→World→Prop} (h:F_cache_Cache_Clean c lba version w R):zB Tryz.prog 228 #[.pointer (some ⟨c,0,none⟩),.int .i64 lba,.int .u64 version] w R:=by
 exact zE (args:=[.pointer (some ⟨c,0,none⟩),.int .i64 lba,.int .u64 version]) (mkAnn [] [] [] [] []) zD Tryz.func228 rfl rfl (by kernel_rfl) h
end Go.Proofs
namespace Go.Proofs
open Go Go.Ev Go.Sort
set_option maxRecDepth 100000
theorem cmp_list (r s:Rec) (w:World):Calls Tryz.prog 286 #[.agg (recV r),.agg (recV s)] w fun e w'=>e=.returned (.int .i64 (cmpR r s))∧∃ q os,w'=grow (w.drewN q) os:=by
 have key:zB Tryz.prog 286 #[.agg (recV r),.agg (recV s)] w fun v w'=>v=.int .i64 (cmpR r s)∧∃ q os,w'=grow (w.drewN q) os:=by
  apply C_cache_Cache_List_1
  unfold F_cache_Cache_List_1
  rw [Alc_iff,Alc_iff]
  have ha:=(Has.new w (.cells (recV r) 246)).alloc (y:=.cells (recV s) 246)
  have hb:=Has.new (w.alloc (.cells (recV r) 246)) (.cells (recV s) 246)
  have hg:∃ q:Nat,∀ d,w.drawn≤d→((w.alloc (.cells (recV r) 246)).alloc (.cells (recV s) 246)).dr d=grow (w.drewN (d-w.drawn)) #[.cells (recV r) 246,.cells (recV s) 246]:=by
   refine ⟨0,fun d hd=>?_⟩
   have:w.drawn+(d-w.drawn)=d:=by omega
   unfold World.dr World.alloc grow World.drewN
   simp only [this]
   congr 1
  obtain ⟨_,hg⟩:=hg
  generalize hw2:(w.alloc (.cells (recV r) 246)).alloc (.cells (recV s) 246)=w2 at *
  have hdr:w2.drawn=w.drawn:=by rw [← hw2];rfl
  intro d hd
  rw [hdr] at hd
  refine LdV_has (v:=.int .u64 r.ver) (ha.dr d) rfl ?_
  simp only [zA]
  refine LdV_has (v:=.int .u64 s.ver) (hb.dr d) rfl ?_
  simp only [zA]
  refine ⟨.int .i64 (cmpI r.ver s.ver),?_,?_⟩
  ·exact Calls.mono (compare_u64 (R:=fun v w'=>v=.int .i64 (cmpI r.ver s.ver)∧w'=w2.dr d) r.ver s.ver (w2.dr d) ⟨rfl,rfl⟩) fun e w' ⟨v,he,hv,hw⟩=>by subst hv;exact ⟨he,hw⟩
  simp only [zA]
  refine LdV_has (v:=.int .i64 r.lba) (ha.dr d) rfl ?_
  simp only [zA]
  refine LdV_has (v:=.int .i64 s.lba) (hb.dr d) rfl ?_
  simp only [zA]
  refine ⟨.int .i64 (cmpI r.lba s.lba),?_,?_⟩
  ·exact Calls.mono (compare_int (R:=fun v w'=>v=.int .i64 (cmpI r.lba s.lba)∧w'=w2.dr d) r.lba s.lba (w2.dr d) ⟨rfl,rfl⟩) fun e w' ⟨v,he,hv,hw⟩=>by subst hv;exact ⟨he,hw⟩
  simp only [zA]
  refine ⟨_,_,run_buildSlice (w2.dr d) 69 3 2 _ #[.int .i64 (cmpI r.ver s.ver),.int .i64 (cmpI r.lba s.lba)] ((Tryz.prog.info? 3).get (by kernel_rfl)) (.int .i64 0) (by kernel_rfl) (by kernel_rfl) (by kernel_rfl) (by decide +kernel) (by decide +kernel) (by kernel_rfl),?_⟩
  simp only [zC]
  refine or_int _ _ _ _ _ (Has.new _ _) ?_
  simp only [zA,Ret_nil]
  refine ⟨rfl,d-w.drawn,#[.cells (recV r) 246,.cells (recV s) 246,.cells #[.int .i64 (cmpI r.ver s.ver),.int .i64 (cmpI r.lba s.lba)] 3],?_⟩
  rw [hg d hd,alloc_eq_grow,grow_grow]
  rfl
 exact Calls.mono key fun e w' ⟨v,he,hv,hw⟩=>by subst hv;exact ⟨he,hw⟩
def recOf (p:Int×Ent):Rec:=⟨1,p.2.2,p.1,p.2.1⟩
def ByVer (rs:List Rec):Prop:=rs.Pairwise fun r s=>¬ cmpR s r<0
def numOf:Option Value→Int
 | some (.int _ n)=>n
 | _=>0
def unEnt (v:Value):Ent:=(fun i=>numOf v.cells[i.val]?,numOf v.cells[16]?)
theorem un_entV (e:Ent):unEnt (entV e)=e:=by
 obtain ⟨f,n⟩:=e
 refine Prod.ext ?_ rfl
 funext i
 match i with
 | ⟨0,_⟩=>rfl | ⟨1,_⟩=>rfl | ⟨2,_⟩=>rfl | ⟨3,_⟩=>rfl | ⟨4,_⟩=>rfl | ⟨5,_⟩=>rfl | ⟨6,_⟩=>rfl | ⟨7,_⟩=>rfl
 | ⟨8,_⟩=>rfl | ⟨9,_⟩=>rfl | ⟨10,_⟩=>rfl | ⟨11,_⟩=>rfl | ⟨12,_⟩=>rfl | ⟨13,_⟩=>rfl | ⟨14,_⟩=>rfl | ⟨15,_⟩=>rfl
 | ⟨n+16,hn⟩=>exact absurd hn (by omega)
theorem tag_out {α:Type} {f:α→Value} {g:Value→α} (hg:∀ e,g (f e)=e) {l:List (Int×α)} {x:Int} {v:Value} {r:List (Int×Value)} (h:(tag f l).Perm ((x,v)::r)) :
  ∃ e l',v=f e∧r=tag f l'∧l.Perm ((x,e)::l'):=by
 have hmem:∀ p∈(x,v)::r,∃ e,p.2=f e:=by
  intro p hp
  have:=h.symm.subset hp
  obtain ⟨q,_,rfl⟩:=List.mem_map.1 this
  exact ⟨q.2,rfl⟩
 obtain ⟨e,he⟩:=hmem (x,v) (by simp)
 have hr:r=tag f (r.map fun p=>(p.1,g p.2)):=by
  unfold tag
  rw [List.map_map]
  conv=>lhs;rw [← List.map_id r]
  apply List.map_congr_left
  intro p hp
  obtain ⟨e',he'⟩:=hmem p (by simp [hp])
  simp only [Function.comp,he',hg,id]
  rw [← he']
 refine ⟨e,_,he,hr,?_⟩
 have h2:=h.map fun p:Int×Value=>(p.1,g p.2)
 have h3:(tag f l).map (fun p:Int×Value=>(p.1,g p.2))=l:=by
  unfold tag
  rw [List.map_map]
  conv=>rhs;rw [← List.map_id l]
  apply List.map_congr_left
  intro p _
  simp [hg]
 rw [h3] at h2
 simpa [show v=f e from he,hg] using h2
theorem sort_row {g:Nat} (hg:∀ (r s:Rec) (w:World),Calls Tryz.prog g #[.agg (recV r),.agg (recV s)] w fun e w'=>e=.returned (.int .i64 (cmpR r s))∧∃ q os,w'=grow (w.drewN q) os)
  (eg:∀ args w,(callFunc g args).run Tryz.prog w=.ok (.enter g args) w) {w:World} {base:Nat} {T:TypeId} {p:Option Addr} {l c:Nat} {rs:List Rec} (h:Own w base T 19 p l c (rs.flatMap recL)) (hsz:l<4611686018427387904)
  {R:Value→World→Prop} (hK:∀ (rs':List Rec) (w':World),rs'.Perm rs→ByVer rs'→Own w' base T 19 p l c (rs'.flatMap recL)→Keep (fun k=>p=some ⟨k,0,none⟩) w w'→R (.tuple #[]) w') :
  zB Tryz.prog 231 #[.slice p l c,.func (.func g) #[] #[]] w R:=by
 rcases h.cases with ⟨rfl,rfl,rfl,h0⟩ | ⟨b,cur,rfl,_⟩
 ·have hrs:rs=[]:=by
   cases rs with
   | nil=>rfl
   | cons r rs=>simp [recL] at h0
  subst hrs
  exact Calls.mono (AnyF.slices_SortFunc_none Tryz.sortRec none 0 (.func (.func g) #[] #[]) w) fun e w' ⟨he,hw⟩=>⟨_,he,by subst hw;exact hK [] _ (List.Perm.refl _) List.Pairwise.nil h (Keep.refl _ _)⟩
 ·exact sort_recs hg eg h hsz fun rs' w' hp hs ho hk=>hK rs' w' hp hs ho (hk.mono fun k hk=>by rw [hk])
theorem bld_rec (k v l:Int) (f:Sec) (w:World):(Instr.build 246 #[(0,.int .i64 k),(1,.int .u64 v),(2,.int .i64 l),(3,.agg (secV f))]).run Tryz.prog w=.ok (.agg (recV ⟨k,v,l,f⟩)) w:=run_build _ _ _ _ (by kernel_rfl)
theorem bsl_rec (r:Rec) (w:World):(Instr.buildSlice 113 1 #[(0,.agg (recV r))]).run Tryz.prog w=.ok (.slice (some ⟨w.heap.size,0,none⟩) 1 1) (w.alloc (.cells (recV r) 246)) :=
 run_buildSlice w 113 246 1 _ (recV r) ((Tryz.prog.info? 246).get (by kernel_rfl)) ((((Tryz.prog.info? 246).get (by kernel_rfl)).zero).get (by kernel_rfl)) (by kernel_rfl) (by kernel_rfl) (by kernel_rfl) (by decide +kernel) (by decide +kernel) (by kernel_rfl)
theorem app_rec {w:World} {base:Nat} {p:Option Addr} {l c:Nat} {rs:List Rec} (h:Own w base 246 19 p l c (rs.flatMap recL)) {a:Nat} {r:Rec} (ha:Has w a (.cells (recV r) 246 (0,0))) (hl:l≤1000000000) (hbase:base≤w.heap.size) :
  ∃ p' c' w',(Builtin.append_ #[113,113] 113 #[.slice p l c,.slice (some ⟨a,0,none⟩) 1 1]).run Tryz.prog w=.ok (.slice p' (l+1) c') w' ∧
   Own w' base 246 19 p' (l+1) c' ((rs++[r]).flatMap recL)∧Keep (fun k=>p=some ⟨k,0,none⟩) w w':=by
 have:=run_appendOwn (P:=Tryz.prog) (t:=113) (ty:=113) (i:=((Tryz.prog.info? 246).get (by kernel_rfl))) (z:=((((Tryz.prog.info? 246).get (by kernel_rfl)).zero).get (by kernel_rfl))) (size:=19) (bytes:=40) (by kernel_rfl) (by kernel_rfl) (by kernel_rfl) (by kernel_rfl) (by kernel_rfl) (by kernel_rfl) (by decide) h
   (a:=⟨a,0,none⟩) (m:=1) (c2:=1) (news:=recL r) rfl (fun jj u hu=>by
    have:Addr.add ⟨a,0,none⟩ jj=⟨a,jj,none⟩:=by unfold Addr.add;split <;> simp_all
    rw [this,cell_of ha]
    simpa [recV] using hu) (one_recL' r) (by omega) (by simp [maxLen];omega) hbase
 simpa using this
theorem cache_List {c m:Nat} {room:Int} {es:List (Int×Ent)} {w:World} {R:Value→World→Prop} (h:CacheAt w c m room es) (hlen:es.length≤1000000)
  (hK:∀ (p:Option Addr) (l cp:Nat) (rs:List Rec) (w':World),rs.Perm (es.map recOf)→ByVer rs→Own w' w.heap.size 246 19 p l cp (rs.flatMap recL)→Keep (fun _=>False) w w'→R (.slice p l cp) w') :
  zB Tryz.prog 262 #[.pointer (some ⟨c,0,none⟩)] w R:=by
 apply C_cache_Cache_List
 unfold F_cache_Cache_List
 refine LdV_has (v:=.map (some m)) h.1 rfl ?_
 simp only [OpM_map]
 obtain ⟨w1,hr,hI,k1⟩:=run_rangeM (P:=Tryz.prog) under_map h.2
 refine ⟨_,_,hr,?_⟩
 simp only [OpN_some]
 have hm:m<w.heap.size:=h.2.lt
 refine LoopC_of (σ:=(Option Addr×Nat×Nat)×Unit) (fun s w'=>∃ (left done:List (Int×Ent)),Iter .i64 w' w.heap.size m (tag entV left)∧(done++left).Perm es ∧
   Own w' (w.heap.size+1) 246 19 s.1.1 s.1.2.1 s.1.2.2 ((done.map recOf).flatMap recL)∧s.1.2.1=done.length∧Keep (fun _=>False) w w'∧w.heap.size+1≤w'.heap.size) (fun s w'=>es.length-s.1.2.1)
  ⟨es,[],hI,by simp,Own.nil _ _ _ _,rfl,k1,by have:=hI.lt.1;omega⟩ ?_
 intro _ s w2 hs
 obtain ⟨⟨p,l,cp⟩,u⟩:=s
 obtain ⟨left,done,hI2,hperm,ho,hl,k2,hsz⟩:=hs
 simp only at ho hl ⊢
 have hln:done.length+left.length=es.length:=by have:=hperm.length_eq;simpa using this
 rcases run_nextM (P:=Tryz.prog) (ty:=0) hI2 with ⟨hnil,hr2⟩ | ⟨x,v,left',w3,hp3,hr2,hI3,hA3,k3⟩
 ·refine ⟨_,_,hr2,Or.inr ⟨rfl,?_⟩⟩
  have hleft:left=[]:=by
   cases left with
   | nil=>rfl
   | cons a b=>simp [tag] at hnil
  subst hleft
  rw [List.append_nil] at hperm
  have eg:∀ args w,(callFunc 286 args).run Tryz.prog w=.ok (.enter 286 args) w:=enters_of Tryz.func286 (by kernel_rfl) rfl
  refine sort_row cmp_list eg ho (by omega) fun rs w4 hrp hrs ho4 k4=>?_
  simp only [Ret_nil]
  have k4':Keep (fun _=>False) w w4:=k2.trans' k4 (fun k hk e=>by have:=(ho.lt e).1;omega)
  refine hK p l cp rs w4 (hrp.trans (hperm.map _)) hrs ?_ k4'
  rcases ho4.cases with ⟨rfl,rfl,rfl,h0⟩ | ⟨b,cur,rfl,hb,hg,hle,hmx,hss,ht⟩
  ·rw [h0];exact Own.nil _ _ _ _
  ·exact Own.mk (by omega) hg hle hmx hss ht
 ·obtain ⟨e,left2,rfl,rfl,hp2⟩:=tag_out un_entV hp3
  refine ⟨_,_,hr2,Or.inl ⟨_,_,rfl,?_⟩⟩
  refine DoQ_of (fun d=>run_entryM (hA3.keep (Keep.drew (fun _=>False) w3 d) (by simp) (by simp))) ?_
  simp only [T2_mk,zA,entV,OpA_agg]
  refine ⟨rfl,?_⟩
  have k23:Keep (fun _=>False) w w3:=k2.trans' k3 (fun k hk e=>by omega)
  have ho3:=ho.keep k3 (fun k hp=>by have:=(ho.lt hp).1;omega)
  have hsz3:w.heap.size+1≤w3.heap.size:=by have:=k3.size;omega
  rw [Alc_iff]
  have hb1:=Has.new w3 (.cells (zc Tryz.prog 354) 354)
  have k4:=Keep.new (fun _=>False) w3 (.cells (zc Tryz.prog 354) 354)
  generalize hw4:w3.alloc (.cells (zc Tryz.prog 354) 354)=w4 at *
  refine StA_all hb1 rfl (by rw [zc_ent];rfl) ?_ ?_
  ·intro v hv
   simp only [List.mem_cons,List.not_mem_nil,or_false] at hv
   rcases hv with rfl | rfl | rfl | rfl | rfl | rfl | rfl | rfl | rfl | rfl | rfl | rfl | rfl | rfl | rfl | rfl | rfl <;> rfl
  generalize hcs:(#[Value.int IntKind.u8 _,_,_,_,_,_,_,_,_,_,_,_,_,_,_,_,_]:Array Value)=cs
  have hb2:=hb1.upd_same (.cells cs 354)
  have k5:=Keep.one w4 w3.heap.size (.cells cs 354)
  have hI5:=(hI3.keep k4 (by simp) (by simp)).keep k5 (by have:=hI3.lt.1;omega) (by have:=hI3.lt.2;omega)
  have ho5:=(ho3.keep k4 (by simp)).keep k5 (fun k hp=>by have:=(ho3.lt hp).2;omega)
  have k25:Keep (fun _=>False) w (w4.upd w3.heap.size (.cells cs 354)):=(k23.trans k4).trans' k5 (fun k hk e=>by omega)
  have hsz5:w.heap.size+1≤(w4.upd w3.heap.size (.cells cs 354)).heap.size:=by have:=k4.size;simp;omega
  generalize hw5:w4.upd w3.heap.size (.cells cs 354)=w5 at *
  subst hcs
  refine LdV_has (v:=.int .u64 e.2) hb2 rfl ?_
  simp only [zA]
  refine LdA_has (cs:=secV e.1) hb2 (by simp) rfl ?_
  refine DoQ_of (fun d=>bld_rec _ _ _ _ _) ?_
  simp only [OpA_agg]
  refine ⟨rfl,_,_,bsl_rec _ _,?_⟩
  simp only [zC]
  have ha:=Has.new w5 (.cells (recV ⟨1,e.2,x,e.1⟩) 246)
  have k6:=Keep.new (fun _=>False) w5 (.cells (recV ⟨1,e.2,x,e.1⟩) 246)
  have ho6:=ho5.keep k6 (by simp)
  have hI6:=hI5.keep k6 (by simp) (by simp)
  have hlt:left.length=left2.length+1:=by have:=hp2.length_eq;simpa using this
  obtain ⟨p',c',w7,hr7,ho7,k7⟩:=app_rec ho6 ha (by omega) (by have:=k6.size;omega)
  refine ⟨_,_,hr7,?_⟩
  simp only [zC]
  have k67:=k25.trans k6
  refine ⟨_,by omega,⟨left2,done++[(x,e)],hI6.keep k7 (fun hp=>?_) (fun hp=>?_),?_,by simpa [recOf] using ho7,by simp [hl],k67.trans' k7 (fun k hk hp=>by have:=(ho6.lt hp).1;omega),by have:=k7.size;have:=k6.size;omega⟩,rfl⟩
  ·have:=(ho6.lt hp).1;omega
  ·have:=(ho6.lt hp).1;omega
  ·have h9:(done++left).Perm (done++(x,e)::left2):=hp2.append_left done
   have:=h9.symm.trans hperm
   simpa using this
end Go.Proofs
namespace Go.Proofs
open Go Go.Ev
set_option maxRecDepth 100000
theorem mlook_mem {α:Type} {es:List (Int×α)} {x:Int} {e:α} (h:mlook es x=some e):(x,e)∈es:=by
 unfold mlook at h
 rw [Option.map_eq_some_iff] at h
 obtain ⟨p,hp,rfl⟩:=h
 have h1:=List.mem_of_find?_eq_some hp
 have h2:=List.find?_some hp
 have:p.1=x:=by simpa using h2
 rw [← this];exact h1
theorem mem_mlook {α:Type} {es:List (Int×α)} (hn:(es.map (·.1)).Nodup) {x:Int} {e:α} (h:(x,e)∈es):mlook es x=some e:=by
 induction es with
 | nil=>simp at h
 | cons p es ih =>
  simp only [List.map_cons,List.nodup_cons] at hn
  unfold mlook at *
  rw [List.find?_cons]
  rcases List.mem_cons.1 h with rfl | h
  ·simp
  ·have hne:p.1≠x:=fun e'=>hn.1 (List.mem_map.2 ⟨(x,e),h,e'.symm⟩)
   have:(p.1==x)=false:=beq_eq_false_iff_ne.2 hne
   rw [this]
   exact ih hn.2 h
theorem CacheAt.nodup {w:World} {c m:Nat} {room:Int} {es:List (Int×Ent)} (h:CacheAt w c m room es):(es.map (·.1)).Nodup:=by
 obtain ⟨_,arr,clk,_,ho⟩:=h
 have:=ho.keys
 unfold tag at this
 rw [List.map_map] at this
 exact this
def rec00:Rec:=⟨0,0,0,sec []⟩
theorem zc_rec':zc Tryz.prog 246=recV rec00:=by kernel_rfl
theorem bld_rec00 (w:World):(Instr.build 246 #[]).run Tryz.prog w=.ok (.agg (recV rec00)) w:=run_build _ _ _ _ (by kernel_rfl)
theorem one_recV' (r:Rec):∀ v∈(recV r).toList,oneV v=true:=by intro v hv;exact one_recL r v (by simpa [recV] using hv)
theorem LdA_row {w:World} {base:Nat} {T:TypeId} {p:Option Addr} {l c:Nat} {rs:List Rec} (h:Own w base T 19 p l c (rs.flatMap recL)) {i:Int} {r:Rec} (h0:0≤i) (hi:rs[i.toNat]? = some r) {K:Array Value→Prop} (hK:K (recV r)) :
  IdxS p l i 19 fun b o=>LdA 19 b o (At w) K:=by
 have hlr:l=rs.length:=by
  have:=h
  rw [flatMap_rows] at this
  simpa using this.count (rows_len rs) (by decide)
 have hlt:=(List.getElem?_eq_some_iff.1 hi).1
 have h2:=h
 rw [flatMap_rows] at h2
 obtain ⟨b,rfl,hc⟩:=h2.at (rows_len rs) (by decide) (i:=i.toNat) (r:=recL r) (by simp [hi])
 refine ⟨b,0,rfl,h0,by omega,recV r,rfl,?_,hK⟩
 rintro w' ⟨d,rfl⟩ j hj
 rw [Nat.zero_add]
 have:=hc j hj
 rw [show (w.dr d).cell? ⟨b,i.toNat*19+j,none⟩=w.cell? ⟨b,i.toNat*19+j,none⟩ from rfl,this]
 simp [recV]
theorem cache_Next {c m:Nat} {room:Int} {es:List (Int×Ent)} {w:World} {R:Value→World→Prop} (h:CacheAt w c m room es) (hlen:es.length≤1000000)
  (h0:∀ w',es=[]→Keep (fun _=>False) w w'→R (.tuple #[.agg (recV rec00),.int .i64 10]) w')
  (h1:∀ p w',p∈es→(∀ q∈es,¬ cmpR (recOf q) (recOf p)<0)→Keep (fun _=>False) w w'→R (.tuple #[.agg (recV (recOf p)),.int .i64 0]) w') :
  zB Tryz.prog 227 #[.pointer (some ⟨c,0,none⟩)] w R:=by
 apply C_cache_Cache_Next
 unfold F_cache_Cache_Next
 rw [Alc_iff]
 have hb:=Has.new w (.cells (zc Tryz.prog 246) 246)
 have k0:=Keep.new (fun _=>False) w (.cells (zc Tryz.prog 246) 246)
 have hC:=h.keep k0 (by simp) (by simp)
 generalize w.alloc (.cells (zc Tryz.prog 246) 246)=w0 at *
 refine cache_List hC hlen fun p l cp rs w1 hrp hrs ho k1=>?_
 simp only [zC]
 have hlr:l=rs.length:=by
  have:=ho
  rw [flatMap_rows] at this
  simpa using this.count (rows_len rs) (by decide)
 have hle:rs.length=es.length:=by have:=hrp.length_eq;simpa using this
 have hb1:=k1.has hb (by simp)
 have k01:=k0.trans k1
 cases rs with
 | nil =>
  have hes:es=[]:=List.eq_nil_of_length_eq_zero (by rw [← hle];rfl)
  subst hlr
  rw [show ((((([]:List Rec).length:Nat):Int))==0)=true from rfl,Cb_true]
  refine DoQ_of (fun d=>bld_rec00 _) ?_
  simp only [OpA_agg]
  refine ⟨rfl,StA_all hb1 rfl (by rw [zc_rec'];rfl) (one_recV' _) ?_⟩
  refine LdA_all (hb1.upd_same _) rfl ?_
  simp only [Ret_nil]
  exact h0 _ hes (k01.upd (by omega) _)
 | cons r rs =>
  have hz:(((l:Nat):Int)==0)=false:=by simp [hlr];omega
  rw [hz,Cb_false]
  refine LdA_row ho (by decide) (r:=r) rfl ?_
  refine StA_all hb1 rfl (by rw [zc_rec'];rfl) (one_recV' _) ?_
  refine LdA_all (hb1.upd_same _) rfl ?_
  simp only [Ret_nil]
  have hr:r∈es.map recOf:=hrp.subset (by simp)
  obtain ⟨q,hq,rfl⟩:=List.mem_map.1 hr
  refine h1 q _ hq (fun q' hq'=>?_) (k01.upd (by omega) _)
  have:recOf q'∈recOf q::rs:=hrp.symm.subset (List.mem_map.2 ⟨q',hq',rfl⟩)
  rcases List.mem_cons.1 this with e | hm
  ·rw [e,cmpR_lt];omega
  ·exact (List.pairwise_cons.1 hrs).1 _ hm
def cleanE (es:List (Int×Ent)) (lba version:Int):Int:=match mlook es lba with
 | none=>10
 | some e=>if e.2>version then 12 else 0
theorem cache_Clean {c m:Nat} {room lba version:Int} {es:List (Int×Ent)} {w:World} {R:Value→World→Prop} (h:CacheAt w c m room es)
  (hK:∀ w',Keep (fun k=>k=m) w w'→CacheAt w' c m room (if cleanE es lba version=0 then del es lba else es)→R (.int .i64 (cleanE es lba version)) w') :
  zB Tryz.prog 228 #[.pointer (some ⟨c,0,none⟩),.int .i64 lba,.int .u64 version] w R:=by
 apply C_cache_Cache_Clean
 unfold F_cache_Cache_Clean
 refine cache_Get h fun w1 k1=>?_
 have go:∀ (f:Sec),∃ w2,(w1.alloc (.cells (zc Tryz.prog 37) 37)).upd w1.heap.size (.cells (secV f) 37)=w2∧Keep (fun _=>False) w w2:=by
  intro f
  exact ⟨_,rfl,(k1.alloc _).upd (by have:=k1.size;omega) _⟩
 cases hl:mlook es lba with
 | none =>
  have e:cleanE es lba version=10:=by simp [cleanE,hl]
  rw [e] at hK
  simp only [T3_mk,OpA_agg,zA]
  refine ⟨rfl,?_⟩
  rw [Alc_iff]
  refine StA_all (Has.new _ _) rfl (by rw [zc_sec];rfl) (one_secV _) ?_
  obtain ⟨w2,hw,k2⟩:=go (sec [])
  rw [hw,show ((10:Int)!=0)=true from rfl,Cb_true]
  simp only [Ret_nil]
  exact hK w2 (k2.mono fun _ h=>h.elim) (by simpa using h.keep k2 (by simp) (by simp))
 | some e =>
  simp only [T3_mk,OpA_agg,zA]
  refine ⟨rfl,?_⟩
  rw [Alc_iff]
  refine StA_all (Has.new _ _) rfl (by rw [zc_sec];rfl) (one_secV _) ?_
  obtain ⟨w2,hw,k2⟩:=go e.1
  rw [hw,show ((0:Int)!=0)=false from rfl,Cb_false]
  have h2:=h.keep k2 (by simp) (by simp)
  refine Cb_of (fun hv=>?_) (fun hv=>?_)
  ·have hv':e.2>version:=by simpa using hv
   have ec:cleanE es lba version=12:=by simp only [cleanE,hl];rw [if_pos hv']
   rw [ec] at hK
   simp only [Ret_nil]
   exact hK w2 (k2.mono fun _ h=>h.elim) (by simpa using h2)
  ·have hv':¬ e.2>version:=by simpa using hv
   have ec:cleanE es lba version=0:=by simp only [cleanE,hl];rw [if_neg hv']
   rw [ec] at hK
   refine LdV_has (v:=.map (some m)) h2.1 rfl ?_
   simp only [OpM_map]
   obtain ⟨arr,clk,hr,ho⟩:=run_delete (P:=Tryz.prog) (ty:=0) under_map under_int h2.2 lba
   refine ⟨_,_,hr,?_⟩
   rw [del_tag] at ho
   simp only [Ret_nil]
   obtain ⟨arr0,clk0,hm,_⟩:=h2.2
   have k3:Keep (fun k=>k=m) w w2:=k2.mono fun _ h=>h.elim
   refine hK _ (k3.upd (k:=m) (fun _=>rfl) _) ?_
   rw [if_pos rfl]
   exact ⟨h2.1.upd (h2.1.ne hm (by simp)),arr,clk,hm.upd_same _,ho⟩
def IsD (es:List (Int×Ent)) (D:List Rec):Prop:=D.Perm (es.map recOf)∧ByVer D
theorem eq_of_lbas {rs:List Rec} (h:(rs.map (·.lba)).Nodup) {a b:Rec} (ha:a∈rs) (hb:b∈rs) (e:a.lba=b.lba):a=b:=by
 induction rs with
 | nil=>simp at ha
 | cons r rs ih =>
  simp only [List.map_cons,List.nodup_cons] at h
  rcases List.mem_cons.1 ha with rfl | ha2
  ·rcases List.mem_cons.1 hb with rfl | hb2
   ·rfl
   ·exact absurd (List.mem_map.2 ⟨b,hb2,e.symm⟩) h.1
  ·rcases List.mem_cons.1 hb with rfl | hb2
   ·exact absurd (List.mem_map.2 ⟨a,ha2,e⟩:b.lba∈List.map (fun x=>x.lba) rs) h.1
   ·exact ih h.2 ha2 hb2
theorem isD_eq {es:List (Int×Ent)} (hn:(es.map (·.1)).Nodup) {C D:List Rec} (hc:IsD es C) (hd:IsD es D):C=D:=by
 have hl:(C.map (·.lba)).Nodup:=by
  have h1:(C.map (·.lba)).Perm ((es.map recOf).map (·.lba)):=hc.1.map _
  refine h1.nodup_iff.2 ?_
  rw [List.map_map]
  exact hn
 refine List.Perm.eq_of_pairwise (le:=fun r s=>¬ cmpR s r<0) ?_ hc.2 hd.2 (hc.1.trans hd.1.symm)
 intro r s hr hs h1 h2
 rw [cmpR_lt] at h1 h2
 have hm:s∈C:=(hc.1.trans hd.1.symm).symm.subset hs
 have hlba:r.lba=s.lba:=by omega
 exact eq_of_lbas hl hr hm hlba
section calls
variable {w:World} {q:PB} {s:PS} {R:Value→World→Prop}
theorem pr_Dirty (h:PairAt w q s) (hlen:s.es.length≤1000000) (hK:∀ D p l c w',IsD s.es D→OwnL rLay w' w.heap.size 246 p l c D→Keep (fun _=>False) w w'→R (.slice p l c) w'):zB Tryz.prog 236 #[.pointer (some ⟨q.p,0,none⟩)] w R:=by
 apply C_mirror_Pair_Dirty
 unfold F_mirror_Pair_Dirty
 refine LdV_has (v:=.pointer (some ⟨q.c,0,none⟩)) h.cells rfl ?_
 refine OpN_some.2 ?_
 refine cache_List h.cache hlen fun p l c rs w' hp hb ho k=>?_
 exact zC.2 (Ret_nil.2 (hK rs p l c w' ⟨hp,hb⟩ ho k))
def epR (s:PS):Rec:=⟨6,IntKind.wrap .u64 s.epoch,0,sec []⟩
theorem pr_short (h:PairAt w q s) (hlen:s.es.length≤1000000) (hK:∀ D p l c w',IsD s.es D→OwnL rLay w' w.heap.size 246 p l c (epR s::D)→Keep (fun _=>False) w w'→R (.slice p l c) w'):zB Tryz.prog 171 #[.pointer (some ⟨q.p,0,none⟩)] w R:=by
 apply C_mirror_Pair_short
 unfold F_mirror_Pair_short
 intro d
 have kd:=Keep.drew (fun _=>False) w d
 have h0:=h.keep kd
 refine ⟨fun w'=>Has w' q.p (.cells (pairC q s) 153 (0,0)),h0.cells,?_⟩
 refine LdV_of (v:=.int .u32 s.epoch) (fun w' hw=>⟨_,_,_,hw,rfl⟩) ?_
 refine zA.2 ?_
 refine ⟨.agg (recV (epR s)),fun w' _=>run_build _ _ _ _ (by kernel_rfl),OpA_agg.2 ⟨rfl,?_,?_⟩⟩
 ·refine ⟨_,_,bsl_r1 (epR s) (w.dr d),zC.2 ?_⟩
  have k1:=Keep.new (fun _=>False) (w.dr d) (.cells (recV (epR s)) 246)
  have h1:=Has.new (w.dr d) (.cells (recV (epR s)) 246)
  have z1:((w.dr d).alloc (.cells (recV (epR s)) 246)).heap.size=w.heap.size+1:=by simp
  generalize (w.dr d).alloc (.cells (recV (epR s)) 246)=w1 at *
  have o1:OwnL rLay w1 w.heap.size 246 (some ⟨w.heap.size,0,none⟩) 1 1 [epR s]:=OwnL.mk (xs:=[epR s]) (Nat.le_refl _) h1 (by simp [maxLen]) (by rw [rLay.rows_one'];rfl)
  have p1:=h0.keep k1
  refine ⟨p1.cells,?_⟩
  refine pr_Dirty p1 hlen fun D p l c w2 hD o2 k2=>?_
  refine zC.2 ⟨k2.has p1.cells (by simp),?_⟩
  have hl2:=o2.length
  have hD2:D.length=s.es.length:=by have:=hD.1.length_eq;simpa using this
  have z2:=k2.size
  obtain ⟨p5,c5,w5,hr,o5,k5,hp5⟩:=run_appendF rLayT (o1.keep k2 (by simp)) o2.sl (ty:=113) (c2:=c) (by omega) (by simp only [maxLen];omega) (by omega)
  refine ⟨_,_,hr,zC.2 ⟨k5.has (k2.has p1.cells (by simp)) (fun e=>?_),Ret_nil.2 ?_⟩⟩
  ·injection e with e
   injection e with e
   have:=h.cells.lt
   omega
  ·refine hK D _ _ _ w5 hD o5 ?_
   exact ((kd.trans k1).trans k2).trans' k5 fun i hi e=>by
    injection e with e
    injection e with e
    omega
 ·refine pr_Dirty h0 hlen fun D p l c w2 hD o2 k2=>?_
  refine zC.2 ⟨k2.has h0.cells (by simp),?_⟩
  have hl2:=o2.length
  have hD2:D.length=s.es.length:=by have:=hD.1.length_eq;simpa using this
  have z2:w.heap.size≤w2.heap.size:=k2.size
  refine ⟨_,_,bsl_r1 (epR s) w2,zC.2 ?_⟩
  have k1:=Keep.new (fun _=>False) w2 (.cells (recV (epR s)) 246)
  have h1:=Has.new w2 (.cells (recV (epR s)) 246)
  have z1:(w2.alloc (.cells (recV (epR s)) 246)).heap.size=w2.heap.size+1:=by simp
  generalize w2.alloc (.cells (recV (epR s)) 246)=w3 at *
  have o1:OwnL rLay w3 w2.heap.size 246 (some ⟨w2.heap.size,0,none⟩) 1 1 [epR s]:=OwnL.mk (xs:=[epR s]) (Nat.le_refl _) h1 (by simp [maxLen]) (by rw [rLay.rows_one'];rfl)
  have hc3:=(k2.trans k1).has h0.cells (by simp)
  refine ⟨hc3,?_⟩
  obtain ⟨p5,c5,w5,hr,o5,k5,hp5⟩:=run_appendF rLayT (o1.rebase z2) (o2.keep k1 (by simp)).sl (ty:=113) (c2:=c) (by omega) (by simp only [maxLen];omega) (by omega)
  refine ⟨_,_,hr,zC.2 ⟨k5.has hc3 (fun e=>?_),Ret_nil.2 ?_⟩⟩
  ·injection e with e
   injection e with e
   have:=h.cells.lt
   omega
  ·refine hK D _ _ _ w5 hD o5 ?_
   exact ((kd.trans k2).trans k1).trans' k5 fun i hi e=>by
    injection e with e
    injection e with e
    omega
def load1 (sz:Int) (rs:List Rec) (f:Bool) (s:PS):Int×PS :=
 match f with
 | false=>let r:=loadP s.pw sz s.xa rs;(r.1,{ s with pw:=r.2.1,xa:=r.2.2 })
 | true=>let r:=loadP s.pw sz s.xb rs;(r.1,{ s with pw:=r.2.1,xb:=r.2.2 })
theorem loadP_len {pw:Pow} {sz:Int} {bs:List Int} {rs:List Rec} (h:(bs.length:Int)≤sz):((loadP pw sz bs rs).2.2.length:Int)≤sz:=by
 unfold loadP
 split
 ·exact h
 ·split
  ·exact h
  ·split
   ·exact h
   ·show ((rs.flatMap packB).length:Int)≤sz
    rw [len_flatPack];omega
theorem pr_load1 (h:PairAt w q s) {rs:List Rec} {f:Bool} {lp:Option Addr} {ll lc:Nat} (hrs:SlL rLay w lp ll rs) (hx:∀ x∈rs,recGood x=true) (hll:ll≤1000000) (hK:∀ w',PairAt w' q (load1 q.sz rs f s).2→Keep (PFoot q w) w w'→R (.int .i64 (load1 q.sz rs f s).1) w') :
  zB Tryz.prog 170 #[.pointer (some ⟨ramB q f,0,none⟩),.slice lp ll lc] w R:=by
 obtain ⟨pa,la,ca,pb,lb,cb,ha,hb,hne⟩:=h.rams
 have inj:∀ {k:Nat} {cs cs':Array Value} {t t':TypeId} {f f':Nat×Nat},Has w k (.cells cs t f)→Has w k (.cells cs' t' f')→t=t':=by
  intro k cs cs' t t' f f' h1 h2
  have:=h1.inj h2
  simp only [Obj.cells.injEq] at this
  exact this.2.1
 have nmap:∀ {k:Nat} {cs:Array Value} {t:TypeId} {f:Nat×Nat},Has w k (.cells cs t f)→k≠q.mp:=by
  intro k cs t f h1 e
  obtain ⟨_,arr,clk,hm,_⟩:=h.cache
  subst e
  cases h1.inj hm
 have c1:∀ {r:Nat} {p:Option Addr} {l c:Nat} {bs:List Int},RaAt w q.base q.m r q.sz p l c bs→∀ {w':World},Keep (fun k=>k=q.m∨k=r) w w'→(r=q.a∨r=q.b) →
   Keep (PFoot q w) w w'∧Has w' q.p (.cells (pairC q s) 153 (0,0))∧CacheAt w' q.c q.mp q.room s.es:=by
  intro r p l c bs hr w' k hrr
  have hS:∀ {k':Nat} {cs:Array Value} {t:TypeId} {f:Nat×Nat},Has w k' (.cells cs t f)→t≠209→t≠214→¬ (k'=q.m∨k'=r):=by
   intro k' cs t f hk h1 h2 hor
   rcases hor with e | e
   ·subst e;exact h1 (inj hk (show Has w _ _ from h.main))
   ·subst e;exact h2 (inj hk hr.cells)
  have hMap:¬ (q.mp=q.m∨q.mp=r):=by
   rintro (e | e)
   ·exact nmap (show Has w _ _ from h.main) e.symm
   ·exact nmap hr.cells e.symm
  refine ⟨k.mono ?_,k.has h.cells (hS h.cells (by decide) (by decide)),h.cache.keep k (hS h.cache.1 (by decide) (by decide)) hMap⟩
  rintro k' (e | e)
  ·exact Or.inr (Or.inr (Or.inl e))
  ·rcases hrr with h1 | h1
   ·exact Or.inr (Or.inr (Or.inr (Or.inl (e.trans h1))))
   ·exact Or.inr (Or.inr (Or.inr (Or.inr (Or.inl (e.trans h1)))))
 have other:∀ {r r':Nat} {p p':Option Addr} {l l' c c':Nat} {bs bs':List Int},RaAt w q.base q.m r q.sz p l c bs→RaAt w q.base q.m r' q.sz p' l' c' bs'→r≠r' →
   ∀ {w':World},Keep (fun k=>k=q.m∨k=r) w w'→RaAt w' q.base q.m r' q.sz p' l' c' bs':=by
  intro r r' p p' l l' c c' bs bs' hr hr' hn w' k
  refine hr'.keep k ?_ ?_
  ·rintro (e | e)
   ·subst e;exact absurd (inj hr'.cells (show Has w _ _ from h.main)) (by decide)
   ·exact hn e.symm
  ·rintro k' hk (e | e)
   ·subst e;exact bytes_ne hr'.row (show Has w _ _ from h.main) (by decide) hk
   ·subst e;exact bytes_ne hr'.row hr.cells (by decide) hk
 cases f
 ·show zB Tryz.prog 170 #[.pointer (some ⟨q.a,0,none⟩),.slice lp ll lc] w R
  refine ra_Load ha h.main hrs hx h.form.1 h.form.2 hll h.hb fun p' l' c' w' hr hm hp k=>?_
  obtain ⟨kf,hc,hca⟩:=c1 ha k (Or.inl rfl)
  refine hK w' ⟨hc,hca,hm,⟨p',l',c',pb,lb,cb,hr,other ha hb h.ne k,?_⟩,h.ne,⟨loadP_len h.fit.1,h.fit.2⟩,h.form,h.low⟩ kf
  intro k' hk' hpb
  rcases hp with e | e
  ·exact hne k' (e ▸ hk') hpb
  ·have:=e k' hk'
   have:=(hb.row.lt hpb).2
   omega
 ·show zB Tryz.prog 170 #[.pointer (some ⟨q.b,0,none⟩),.slice lp ll lc] w R
  refine ra_Load hb h.main hrs hx h.form.1 h.form.2 hll h.hb fun p' l' c' w' hr hm hp k=>?_
  obtain ⟨kf,hc,hca⟩:=c1 hb k (Or.inr rfl)
  refine hK w' ⟨hc,hca,hm,⟨pa,la,ca,p',l',c',other hb ha h.ne.symm k,hr,?_⟩,h.ne,⟨h.fit.1,loadP_len h.fit.2⟩,h.form,h.low⟩ kf
  intro k' hpa hk'
  rcases hp with e | e
  ·exact hne k' hpa (e ▸ hk')
  ·have:=e k' hk'
   have:=(ha.row.lt hpa).2
   omega
def stampP (sz:Int) (s:PS) (ep:Int):Int×PS :=
 let r:=eachP sz ⟨6,IntKind.wrap .u64 ep,0,sec []⟩ false s
 if r.1≠0 then (r.1,r.2) else (0,{ r.2 with epoch:=ep })
theorem pr_Stamp (h:PairAt w q s) {ep:Int} (hK:∀ w',PairAt w' q (stampP q.sz s ep).2→Keep (PFoot q w) w w'→R (.int .i64 (stampP q.sz s ep).1) w'):zB Tryz.prog 146 #[.pointer (some ⟨q.p,0,none⟩),.int .u32 ep] w R:=by
 apply C_mirror_Pair_Stamp
 unfold F_mirror_Pair_Stamp
 refine DoQ_of (v:=.agg (recV ⟨6,IntKind.wrap .u64 ep,0,sec []⟩)) (fun d=>run_build _ _ _ _ (by kernel_rfl)) ?_
 refine OpA_agg.2 ⟨rfl,?_⟩
 refine pr_each h false rfl fun w2 p2 k2=>?_
 refine zA.2 ?_
 unfold stampP at hK
 simp only at hK
 generalize eachP q.sz ⟨6,IntKind.wrap .u64 ep,0,sec []⟩ false s=r at *
 refine Cb_of (fun hc=>?_) (fun hc=>?_)
 ·have hc:r.1≠0:=by simpa using hc
  rw [if_pos hc] at hK
  exact Ret_nil.2 (hK w2 p2 k2)
 ·have hc:r.1=0:=by simpa using hc
  rw [if_neg (by simp [hc])] at hK
  refine StV_of p2.cells (by show 5<7;decide) rfl ?_
  have h2:=p2.setC (e':=r.2.es) (la:=r.2.last) (ep:=ep) (ua:=r.2.ua) (ub:=r.2.ub) rfl
  refine Ret_nil.2 (hK _ h2 (PFoot.trans k2 ((Keep.one w2 q.p _).mono fun _ e=>Or.inl e)))
def downS (s:PS) (f:Bool) (v:Bool):PS:={ s with ua:=cond f s.ua v,ub:=cond f v s.ub }
theorem pr_set (h:PairAt w q s) (f v:Bool) {K:World→Prop} (hK:∀ w',PairAt w' q (downS s f v)→Keep (PFoot q w) w w'→K w'):StV q.p (3+Int.toNat (sideN f)*1) (.bool v) w K:=by
 cases f
 ·refine StV_of (o:=3) h.cells (by show 3<7;decide) rfl ?_
  exact hK _ (h.setC (e':=s.es) (la:=s.last) (ep:=s.epoch) (ua:=v) (ub:=s.ub) rfl) ((Keep.one w q.p _).mono fun _ e=>Or.inl e)
 ·refine StV_of (o:=4) h.cells (by show 4<7;decide) rfl ?_
  exact hK _ (h.setC (e':=s.es) (la:=s.last) (ep:=s.epoch) (ua:=s.ua) (ub:=v) rfl) ((Keep.one w q.p _).mono fun _ e=>Or.inl e)
def leaveP (s:PS) (f:Bool):Int×PS:=if s.ua=false∨s.ub=false then (13,s) else (0,downS s f false)
theorem pr_Leave (h:PairAt w q s) (f:Bool) (hK:∀ w',PairAt w' q (leaveP s f).2→Keep (PFoot q w) w w'→R (.int .i64 (leaveP s f).1) w'):zB Tryz.prog 143 #[.pointer (some ⟨q.p,0,none⟩),.int .i64 (sideN f)] w R:=by
 apply C_mirror_Pair_Leave
 unfold F_mirror_Pair_Leave
 refine pr_side _ ?_
 refine OpB_bool.2 ?_
 have e:(!(decide (sideN f=0) || decide (sideN f=1)))=false:=by cases f <;> rfl
 rw [e]
 refine (Cb_false (p:=_)).2 ⟨by decide,?_⟩
 refine LdV_has (v:=.bool s.ua) h.cells rfl (OpB_bool.2 ?_)
 unfold leaveP at hK
 refine Cb_of (fun hc=>?_) (fun hc=>?_)
 ·have hc:s.ua=false:=by simpa using hc
  rw [if_pos (Or.inl hc)] at hK
  exact Ret_nil.2 (hK w h (Keep.refl _ _))
 have hua:s.ua=true:=by simpa using hc
 refine ⟨by decide,?_⟩
 refine LdV_has (v:=.bool s.ub) h.cells rfl (OpB_bool.2 ?_)
 refine Cb_of (fun hc=>?_) (fun hc=>?_)
 ·have hc:s.ub=false:=by simpa using hc
  rw [if_pos (Or.inr hc)] at hK
  exact Ret_nil.2 (hK w h (Keep.refl _ _))
 have hub:s.ub=true:=by simpa using hc
 rw [if_neg (by simp [hua,hub])] at hK
 have hb2:0≤sideN f∧sideN f<2:=by cases f <;> decide
 refine ⟨hb2,?_⟩
 exact pr_set h f false fun w' p' k'=>Ret_nil.2 (hK w' p' k')
def joinP (sz:Int) (s:PS) (f:Bool) (D:List Rec):Int×PS :=
 if (cond f s.ub s.ua)=true then (11,s)
 else if (load1 sz (epR s::D) f s).1≠0 then load1 sz (epR s::D) f s else (0,downS (load1 sz (epR s::D) f s).2 f true)
theorem pr_Join (h:PairAt w q s) (f:Bool) (hlen:s.es.length≤999999) (hg:∀ e∈s.es,0≤e.1∧e.1≤2147483647) (hK1:(cond f s.ub s.ua)=true→R (.int .i64 11) w) (hK:(cond f s.ub s.ua)=false→∀ D w',IsD s.es D→PairAt w' q (joinP q.sz s f D).2→Keep (PFoot q w) w w'→R (.int .i64 (joinP q.sz s f D).1) w'):zB Tryz.prog 92 #[.pointer (some ⟨q.p,0,none⟩),.int .i64 (sideN f)] w R:=by
 apply C_mirror_Pair_Join
 unfold F_mirror_Pair_Join
 refine pr_side _ ?_
 refine OpB_bool.2 ?_
 have e:(!(decide (sideN f=0) || decide (sideN f=1)))=false:=by cases f <;> rfl
 rw [e]
 have hb2:0≤sideN f∧sideN f<2:=by cases f <;> decide
 refine (Cb_false (p:=_)).2 ⟨hb2,?_⟩
 refine LdV_has (v:=.bool (cond f s.ub s.ua)) h.cells (by cases f <;> rfl) (OpB_bool.2 ?_)
 refine Cb_of (fun hu=>?_) (fun hu=>?_)
 ·exact Ret_nil.2 (hK1 hu)
 intro d
 have kd:=Keep.drew (fun _=>False) w d
 have h0:=h.keep kd
 refine ⟨fun w'=>Has w' q.p (.cells (pairC q s) 153 (0,0)),h0.cells,hb2,?_⟩
 refine LdV_of (v:=.pointer (some ⟨ramB q f,0,none⟩)) (fun w' hw=>⟨_,_,_,hw,by cases f <;> rfl⟩) ?_
 refine OpN_some.2 ?_
 refine pr_short h0 (by omega) fun D p l c w1 hD o1 k1=>?_
 have h1:=h0.keep k1
 refine zC.2 ⟨h1.cells,?_⟩
 have hl1:=o1.length
 have hDl:D.length=s.es.length:=by have:=hD.1.length_eq;simpa using this
 have hgood:∀ x∈epR s::D,recGood x=true:=by
  intro x hx
  rcases List.mem_cons.1 hx with rfl | hx
  ·rfl
  ·obtain ⟨e,he,rfl⟩:=List.mem_map.1 (hD.1.subset hx)
   have:=hg e he
   unfold recGood recOf
   simp only [Bool.and_eq_true,decide_eq_true_eq]
   omega
 refine pr_load1 h1 o1.sl hgood (by rw [hl1,List.length_cons];omega) fun w2 p2 k2=>?_
 refine zA.2 ?_
 have k02:=PFoot.trans (PFoot.none (kd.trans k1)) k2
 have hc2:Has w2 q.p (.cells (pairC q s) 153 (0,0)):=by
  have:=p2.cells
  have e2:pairC q (load1 q.sz (epR s::D) f s).2=pairC q s:=by cases f <;> rfl
  rw [e2] at this
  exact this
 refine ⟨hc2,?_⟩
 have hK:=hK hu D
 unfold joinP at hK
 rw [if_neg (by rw [hu];simp)] at hK
 generalize load1 q.sz (epR s::D) f s=r at *
 refine Cb_of (fun hc=>?_) (fun hc=>?_)
 ·have hc:r.1≠0:=by simpa using hc
  rw [if_pos hc] at hK
  exact Ret_nil.2 (hK w2 hD p2 k02)
 ·have hc:r.1=0:=by simpa using hc
  rw [if_neg (by simp [hc])] at hK
  refine ⟨hb2,?_⟩
  exact pr_set p2 f true fun w' p' k'=>Ret_nil.2 (hK w' hD p' (PFoot.trans k02 k'))
def compS (sz:Int) (rs:List Rec):List Bool→PS→Int×PS
 | [],s=>(0,s)
 | f::fs,s=>if (load1 sz rs f s).1≠0 then load1 sz rs f s else compS sz rs fs (load1 sz rs f s).2
theorem load1_same {sz:Int} {rs:List Rec} {f:Bool} {s:PS}:(load1 sz rs f s).2.es=s.es∧(load1 sz rs f s).2.epoch=s.epoch:=by cases f <;> exact ⟨rfl,rfl⟩
theorem pr_Compact (h:PairAt w q s) (hlen:s.es.length≤999999) (hg:∀ e∈s.es,0≤e.1∧e.1≤2147483647) {D:List Rec} (hD:IsD s.es D) (hK:∀ w',PairAt w' q (compS q.sz (epR s::D) (upS s false) s).2→Keep (PFoot q w) w w'→R (.int .i64 (compS q.sz (epR s::D) (upS s false) s).1) w'):zB Tryz.prog 168 #[.pointer (some ⟨q.p,0,none⟩)] w R:=by
 apply C_mirror_Pair_Compact
 unfold F_mirror_Pair_Compact
 refine pr_Up h false fun p l c w1 o1 k1=>?_
 refine zC.2 ?_
 have h1:=h.keep k1
 have hl:=o1.length
 rw [List.length_map] at hl
 generalize upS s false=fs at *
 have hDl:D.length=s.es.length:=by have:=hD.1.length_eq;simpa using this
 have hgood:∀ x∈epR s::D,recGood x=true:=by
  intro x hx
  rcases List.mem_cons.1 hx with rfl | hx
  ·rfl
  ·obtain ⟨e,he,rfl⟩:=List.mem_map.1 (hD.1.subset hx)
   have:=hg e he
   unfold recGood recOf
   simp only [Bool.and_eq_true,decide_eq_true_eq]
   omega
 have hnd:(s.es.map (·.1)).Nodup:=h.cache.nodup
 refine LoopC_of (σ:=Int×Unit) (fun st w'=>∃ (k:Nat) (s':PS),st.1=(k:Int)∧k≤l∧PairAt w' q s'∧s'.es=s.es∧s'.epoch=s.epoch∧compS q.sz (epR s::D) (fs.drop k) s'=compS q.sz (epR s::D) fs s∧Keep (PFoot q w) w w'∧OwnL pLay w' w.heap.size 104 p l c (fs.map (ramB q)))
  (fun st _=>(l-st.1).toNat) ⟨0,s,rfl,by omega,h1,rfl,rfl,rfl,PFoot.none k1,o1⟩ ?_
 rintro _ ⟨i,u⟩ w3 ⟨k,s',hi,hk,h3,hes,hep,he,k3,o3⟩
 simp only at hi ⊢
 subst hi
 refine Cb_of (fun hc=>?_) (fun hc=>?_)
 ·have hc:k<l:=by simpa using hc
  obtain ⟨g,hg'⟩:∃ g,fs[k]? = some g:=⟨_,List.getElem?_eq_getElem (by omega)⟩
  refine o3.ld0 (i:=(k:Int)) (n:=1) (x:=ramB q g) (v:=.pointer (some ⟨ramB q g,0,none⟩)) rfl (by omega) (by simp [hg']) rfl ?_
  refine OpN_some.2 ?_
  refine pr_short h3 (by rw [hes];omega) fun D' p' l' c' w4 hD' o4 k4=>?_
  refine zC.2 ?_
  have eD:D'=D:=isD_eq hnd (by rw [← hes];exact hD') hD
  have eE:epR s'=epR s:=by unfold epR;rw [hep]
  rw [eD,eE] at o4
  have h4:=h3.keep k4
  have hl4:=o4.length
  refine pr_load1 h4 o4.sl hgood (by rw [hl4,List.length_cons];omega) fun w5 p5 k5=>?_
  refine zA.2 ?_
  have ed:fs.drop k=g::fs.drop (k+1):=by
   rw [List.drop_eq_getElem_cons (by omega)]
   congr 1
   have:=List.getElem?_eq_getElem (l:=fs) (i:=k) (by omega)
   rw [hg'] at this
   exact (Option.some.inj this).symm
  rw [ed] at he
  have hst:compS q.sz (epR s::D) (g::fs.drop (k+1)) s'=if (load1 q.sz (epR s::D) g s').1≠0 then load1 q.sz (epR s::D) g s' else compS q.sz (epR s::D) (fs.drop (k+1)) (load1 q.sz (epR s::D) g s').2:=rfl
  rw [hst] at he
  have k35:=PFoot.trans (PFoot.trans k3 (PFoot.none k4)) k5
  refine Cb_of (fun hz=>?_) (fun hz=>?_)
  ·have hz:(load1 q.sz (epR s::D) g s').1≠0:=by simpa using hz
   rw [if_pos hz] at he
   rw [← he] at hK
   exact Ret_nil.2 (hK w5 p5 k35)
  ·have hz:(load1 q.sz (epR s::D) g s').1=0:=by simpa using hz
   rw [if_neg (by simp [hz])] at he
   have ek:IntKind.wrap .i64 ((k:Int)+1)=((k+1:Nat):Int):=by
    have:l≤maxLen:=Nat.le_trans o3.cap.1 o3.cap.2
    simp only [maxLen] at this
    rw [wrapI (by omega) (by omega)];omega
   refine ⟨_,by show ((l:Int)-IntKind.wrap .i64 ((k:Int)+1)).toNat<((l:Int)-(k:Int)).toNat;rw [ek];omega,⟨k+1,_,ek,by omega,p5,load1_same.1.trans hes,load1_same.2.trans hep,he,k35,?_⟩,rfl⟩
   refine (o3.keep k4 (by simp)).keep k5 fun k' hk'=>?_
   have o34:=o3.keep k4 (by simp)
   rcases Own.cases o34 with ⟨h0,_⟩ | ⟨b',cur,h0,_,hg',_⟩
   ·rw [h0] at hk';cases hk'
   ·rw [h0] at hk';cases hk'
    intro hf
    have:=PFoot.has (w':=w4.upd k' (.cells #[] 0 (0,0))) (Keep.mono (Keep.one w4 k' (.cells #[] 0 (0,0))) fun _ e=>e ▸ hf) hg' (by decide) h4 (by decide) (by decide) (by decide)
    have h5:Has (w4.upd k' (.cells #[] 0 (0,0))) k' (.cells #[] 0 (0,0)):=hg'.upd_same _
    have h6:=this.inj h5
    simp only [Obj.cells.injEq] at h6
    exact absurd h6.2.1 (by decide)
 ·have hc:k=l:=by
   have:¬ ((k:Int)<(l:Int)):=by simpa using hc
   omega
  subst hc
  have:fs.drop k=[]:=List.drop_of_length_le (by omega)
  rw [this] at he
  have he:(0,s')=compS q.sz (epR s::D) fs s:=he
  rw [← he] at hK
  exact Ret_nil.2 (hK w3 h3 k3)
end calls
end Go.Proofs
namespace Go.Proofs
open Go.Ev
set_option maxRecDepth 100000
def F_merge_After (epoch:Int) (side:Int) (w:World) (R:Value→World→Prop):Prop :=
 Req ((side !=0)=(side !=0)) (Req ((side !=0)=(side !=0)) (Cb (cond (side !=0) (side !=1) false) (Ret [] (R (.tuple #[.int .u32 0,.int .i64 2]) w)) (Req ((2 :
 Int)≠0) (Cb (Int.tmod (IntKind.wrap .u64 ((IntKind.wrap .u64 epoch)+1)) 2 !=(IntKind.wrap .u64 side)) (Cb (decide (IntKind.wrap .u64 ((IntKind.wrap .u64
 ((IntKind.wrap .u64 epoch)+1))+1)>4294967295)) (Ret [] (R (.tuple #[.int .u32 0,.int .i64 14]) w)) (Ret [] (R (.tuple #[.int .u32 (IntKind.wrap .u32 (IntKind.wrap
 .u64 ((IntKind.wrap .u64 ((IntKind.wrap .u64 epoch)+1))+1))),.int .i64 0]) w))) (Cb (decide (IntKind.wrap .u64 ((IntKind.wrap .u64 epoch)+1)>4294967295)) (Ret []
 (R (.tuple #[.int .u32 0,.int .i64 14]) w)) (Ret [] (R (.tuple #[.int .u32 (IntKind.wrap .u32 (IntKind.wrap .u64 ((IntKind.wrap .u64 epoch)+1))),.int .i64 0]) w)))))))
theorem C_merge_After {epoch:Int} {side:Int} {w:World} {R:Value→World→Prop} (h:F_merge_After epoch side w R):zB Tryz.prog 145 #[.int .u32 epoch,.int .i64 side] w R:=by
 exact zE (args:=[.int .u32 epoch,.int .i64 side]) (mkAnn [] [] [] [] []) zD Tryz.func145 rfl rfl (by kernel_rfl) h
end Go.Proofs
namespace Go.Proofs
open Go Go.Ev
set_option maxRecDepth 100000
def sideOk (n:Int):Prop:=n=0∨n=1
instance (n:Int):Decidable (sideOk n):=inferInstanceAs (Decidable (_∨_))
theorem side0:sideOk 0:=Or.inl rfl
theorem side1:sideOk 1:=Or.inr rfl
def afterS (e side:Int):Int×Int :=
 if ¬ sideOk side then (0,2) else
  let x:=if (e+1) % 2=side then e+1 else e+2
  if 4294967295<x then (0,14) else (x,0)
theorem merge_After {e side:Int} {w:World} {R:Value→World→Prop} (h0:0≤e) (h1:e≤4294967295) (hs : -9223372036854775808≤side∧side≤9223372036854775807) (hK:R (.tuple #[.int .u32 (afterS e side).1,.int .i64 (afterS e side).2]) w) :
  zB Tryz.prog 145 #[.int .u32 e,.int .i64 side] w R:=by
 apply C_merge_After
 unfold F_merge_After
 simp only [Req_true,Req_rfl]
 unfold afterS at hK
 by_cases hn:sideOk side
 ·rw [if_neg (by simpa using hn)] at hK
  have e0:(cond (side !=0) (side !=1) false)=false:=by rcases hn with rfl | rfl <;> rfl
  have w1:IntKind.wrap .u64 e=e:=wrapU64 (by omega) (by omega)
  have w2:IntKind.wrap .u64 (e+1)=e+1:=wrapU64 (by omega) (by omega)
  have w3:IntKind.wrap .u64 side=side:=wrapU64 (by rcases hn with rfl | rfl <;> omega) (by rcases hn with rfl | rfl <;> omega)
  have w4:IntKind.wrap .u64 (e+1+1)=e+2:=by rw [wrapU64 (by omega) (by omega)];omega
  rw [e0,Cb_false]
  refine ⟨by decide,?_⟩
  simp only [w1,w2,w3,w4,Int.tmod_eq_emod_of_nonneg (show 0≤e+1 by omega)]
  refine Cb_of (fun hc=>?_) (fun hc=>?_)
  ·have hx:(if (e+1) % 2=side then e+1 else e+2)=e+2:=if_neg (by simpa using hc)
   simp only [hx] at hK
   refine Cb_of (fun hg=>?_) (fun hg=>?_)
   ·have hg':4294967295<e+2:=by simpa using hg
    rw [if_pos hg'] at hK;simpa using hK
   ·have hg':¬ 4294967295<e+2:=by simpa using hg
    rw [if_neg hg'] at hK
    rw [wrapU32 (by omega) (by omega)];simpa using hK
  ·have hx:(if (e+1) % 2=side then e+1 else e+2)=e+1:=if_pos (by simpa using hc)
   simp only [hx] at hK
   refine Cb_of (fun hg=>?_) (fun hg=>?_)
   ·have hg':4294967295<e+1:=by simpa using hg
    rw [if_pos hg'] at hK;simpa using hK
   ·have hg':¬ 4294967295<e+1:=by simpa using hg
    rw [if_neg hg'] at hK
    rw [wrapU32 (by omega) (by omega)];simpa using hK
 ·rw [if_pos hn] at hK
  have e0:(cond (side !=0) (side !=1) false)=true:=by
   unfold sideOk at hn
   have h1:(side !=0)=true:=by simp;omega
   have h2:(side !=1)=true:=by simp;omega
   rw [h1,h2];rfl
  rw [e0,Cb_true]
  simpa using hK
def flushP (sz:Int) (s:PS) (lba v:Int):Int×PS :=
 if (getV s.es lba).2.2≠0 then ((getV s.es lba).2.2,s) else if v<(getV s.es lba).2.1 then (12,s)
 else
  let r:=eachP sz ⟨2,v,lba,sec []⟩ false s
  if r.1≠0 then r else (cleanE s.es lba v,{ r.2 with es:=if cleanE s.es lba v=0 then del s.es lba else s.es })
section calls
variable {w:World} {q:PB} {s:PS} {R:Value→World→Prop}
theorem PairAt.ofCache {w':World} {es:List (Int×Ent)} (h:PairAt w q s) (hc:CacheAt w' q.c q.mp q.room es) (k:Keep (fun k=>k=q.mp) w w'):PairAt w' q { s with es:=es }:=by
 obtain ⟨pa,la,ca,pb,lb,cb,ha,hb,hne⟩:=h.rams
 have nm:∀ {k:Nat} {cs:Array Value} {t:TypeId} {f:Nat×Nat},Has w k (.cells cs t f)→¬ k=q.mp:=by
  intro k cs t f h1 e
  obtain ⟨_,arr,clk,hm,_⟩:=h.cache
  subst e
  cases h1.inj hm
 have rw_:∀ {p:Option Addr} {l c:Nat} {bs:List Int},OwnL byLay w q.base 5 p l c bs→∀ k,p=some ⟨k,0,none⟩→¬ k=q.mp:=by
  intro p l c bs ho k hk
  rcases Own.cases ho with ⟨h0,_⟩ | ⟨b',cur,h0,hb',hg,_⟩
  ·rw [h0] at hk;cases hk
  ·rw [h0] at hk;cases hk;exact nm hg
 exact ⟨k.has h.cells (nm h.cells),hc,k.has (show Has w _ _ from h.main) (nm h.main),⟨pa,la,ca,pb,lb,cb,ha.keep k (nm ha.cells) (rw_ ha.row),hb.keep k (nm hb.cells) (rw_ hb.row),hne⟩,h.ne,h.fit,h.form,h.low⟩
theorem pr_Next (h:PairAt w q s) (hlen:s.es.length≤1000000) (h0:∀ w',s.es=[]→Keep (fun _=>False) w w'→R (.tuple #[.agg (recV rec00),.int .i64 10]) w')
  (h1:∀ p w',p∈s.es→(∀ q∈s.es,¬ cmpR (recOf q) (recOf p)<0)→Keep (fun _=>False) w w'→R (.tuple #[.agg (recV (recOf p)),.int .i64 0]) w') :
  zB Tryz.prog 157 #[.pointer (some ⟨q.p,0,none⟩)] w R:=by
 apply C_mirror_Pair_Next
 unfold F_mirror_Pair_Next
 refine alc_fresh fun w1 hb1 k1 z1=>?_
 have p1:=h.keep k1
 refine LdV_has (v:=.pointer (some ⟨q.c,0,none⟩)) p1.cells rfl (OpN_some.2 ?_)
 have fin:∀ {w2:World} {r:Rec} {n:Int} {K:Value→World→Prop},Keep (fun _=>False) w1 w2→(∀ w',Keep (fun _=>False) w w'→K (.tuple #[.agg (recV r),.int .i64 n]) w')→StA 19 w.heap.size 0 (recV r) w2 fun w3=>LdA 19 w.heap.size 0 (At w3) fun cs1=>Ret [] (K (.tuple #[.agg cs1,.int .i64 n]) w3):=fun k2 hh=>by
  have hb2:=k2.has hb1 (by simp)
  refine StA_all hb2 rfl (by rw [zc_rec'];rfl) (one_recV' _) (LdA_all (hb2.upd_same _) rfl (Ret_nil.2 (hh _ ((k1.trans k2).upd (fun hi=>absurd hi (by omega)) _))))
 refine cache_Next p1.cache hlen (fun w2 he k2=>?_) (fun p w2 hp hm k2=>?_)
 ·exact T2_mk.2 (OpA_agg.2 ⟨rfl,zA.2 (fin k2 fun w' k'=>h0 w' he k')⟩)
 ·exact T2_mk.2 (OpA_agg.2 ⟨rfl,zA.2 (fin k2 fun w' k'=>h1 p w' hp hm k')⟩)
theorem pr_Flushed (h:PairAt w q s) {lba v:Int} (h0:0≤lba) (h1:lba≤2147483647) (hK:∀ w',PairAt w' q (flushP q.sz s lba v).2→Keep (PFoot q w) w w'→R (.int .i64 (flushP q.sz s lba v).1) w') :
  zB Tryz.prog 160 #[.pointer (some ⟨q.p,0,none⟩),.int .i64 lba,.int .u64 v] w R:=by
 apply C_mirror_Pair_Flushed
 unfold F_mirror_Pair_Flushed
 unfold flushP at hK
 refine pr_Get h fun w1 k1=>T3_mk.2 (OpA_agg.2 ⟨rfl,zA.2 (zA.2 ?_)⟩)
 refine copy_of (by rw [zc_sec];rfl) rfl (one_secV _) fun w2 hb2 k2 z2=>?_
 have k02:=k1.trans k2
 have p2:=h.keep k02
 refine Cb_of (fun hc=>?_) (fun hc=>?_)
 ·have hc:(getV s.es lba).2.2≠0:=by simpa using hc
  rw [if_pos hc] at hK
  exact Ret_nil.2 (hK w2 p2 (PFoot.none k02))
 have hc:¬ (getV s.es lba).2.2≠0:=by simpa using hc
 rw [if_neg hc] at hK
 refine Cb_of (fun hv=>?_) (fun hv=>?_)
 ·have hv:v<(getV s.es lba).2.1:=by simpa using hv
  rw [if_pos hv] at hK
  exact Ret_nil.2 (hK w2 p2 (PFoot.none k02))
 have hv:¬ v<(getV s.es lba).2.1:=by simpa using hv
 rw [if_neg hv] at hK
 refine DoQ_of (v:=.agg (recV ⟨2,v,lba,sec []⟩)) (fun _=>run_build _ _ _ _ (by kernel_rfl)) (OpA_agg.2 ⟨rfl,?_⟩)
 have hg:recGood ⟨2,v,lba,sec []⟩=true:=by
  unfold recGood
  simp only [Bool.and_eq_true,decide_eq_true_eq]
  omega
 refine pr_each p2 false hg fun w3 p3 k3=>zA.2 ?_
 have hes:(eachP q.sz ⟨2,v,lba,sec []⟩ false s).2.es=s.es:=(eachP_same s).1
 generalize eachP q.sz ⟨2,v,lba,sec []⟩ false s=r at *
 have k03:=PFoot.trans (PFoot.none k02) k3
 simp only at hK
 refine Cb_of (fun hr=>?_) (fun hr=>?_)
 ·have hr:r.1≠0:=by simpa using hr
  rw [if_pos hr] at hK
  exact Ret_nil.2 (hK w3 p3 k03)
 have hr:¬ r.1≠0:=by simpa using hr
 rw [if_neg hr] at hK
 refine LdV_has (v:=.pointer (some ⟨q.c,0,none⟩)) p3.cells rfl (OpN_some.2 ?_)
 have hca:CacheAt w3 q.c q.mp q.room s.es:=by rw [← hes];exact p3.cache
 refine cache_Clean hca fun w4 k4 hc4=>zA.2 (Ret_nil.2 ?_)
 exact hK w4 (p3.ofCache hc4 k4) (k03.trans' k4 fun i hi e=>Or.inr (Or.inl e))
end calls
def AB.mb (q:AB):MB:=⟨q.pb.m,q.pb.a,q.pb.b,q.pb.base,q.pb.sz⟩
section plain
variable {w w':World} {q:AB} {lk:Int} {s:AS}
theorem ArAt.stm (h:ArAt w q lk s):StmAt w q.mb q.g q.bks q.pb.base q.sp q.sc s.ss s.ps.xa s.ps.xb:=⟨h.set,h.disks,⟨h.pair.main,h.pair.rams,h.pair.ne,h.pair.fit,h.pair.form,h.pair.hb⟩⟩
theorem WFoot.arF {i:Nat} (e:WFoot q.mb q.g q.bks w i):ArF q w i:=by
 rcases e with (e | e | e | e) | e
 ·exact Or.inr (Or.inr (Or.inr (Or.inr (Or.inl e))))
 ·exact Or.inr (Or.inr (Or.inr (Or.inr (Or.inr (Or.inl e)))))
 ·exact Or.inr (Or.inr (Or.inr (Or.inr (Or.inr (Or.inr (Or.inl e))))))
 ·exact Or.inr (Or.inr (Or.inr (Or.inr (Or.inr (Or.inr (Or.inr e))))))
 ·exact Or.inr (Or.inl e)
theorem ArAt.ofStm (h:ArAt w q lk s) {s':SS} {xa xb:List Int} (hs:StmAt w' q.mb q.g q.bks q.pb.base q.sp q.sc s' xa xb) (k:Keep (WFoot q.mb q.g q.bks w) w w'):ArAt w' q lk { s with ds:=s'.ds,ps:={ s.ps with pw:=s'.pw,xa:=xa,xb:=xb } }:=by
 have st:=h.stm
 have nmap:¬ WFoot q.mb q.g q.bks w q.pb.mp:=fun e=>by
  obtain ⟨_,arr,clk,hm,_⟩:=h.pair.cache
  obtain ⟨_,_,_,_,_,_,ha,hb,_⟩:=h.pair.rams
  have no:∀ {k:Nat} {cs:Array Value} {t:TypeId} {f:Nat×Nat},Has w k (.cells cs t f)→k≠q.pb.mp:=fun h1 e=>by subst e;cases h1.inj hm
  rcases e with (e | e | e | ⟨_,cs,hc⟩) | e
  ·exact no (show Has w _ _ from h.pair.main) e.symm
  ·exact no ha.cells e.symm
  ·exact no hb.cells e.symm
  ·exact no hc rfl
  ·obtain ⟨cs,t,hc⟩:=h.set.blk e
   exact no hc rfl
 refine ⟨WFoot.has st k h.cells (by decide) (by decide) (by decide) (by decide) (by decide),hs.set,hs.disks,
  ⟨WFoot.has st k h.pair.cells (by decide) (by decide) (by decide) (by decide) (by decide),h.pair.cache.keep k (WFoot.not st h.pair.cache.1 (by decide) (by decide) (by decide) (by decide) (by decide)) nmap,hs.mems.main,hs.mems.rams,h.pair.ne,hs.mems.fit,h.pair.form,h.pair.low⟩,
  WFoot.has st k (show Has w _ _ from h.desk) (by decide) (by decide) (by decide) (by decide) (by decide),h.marks.keep k fun b hb=>?_⟩
 obtain ⟨_,cur,hh⟩:=own_has h.marks b 0 hb
 exact WFoot.not st hh (by decide) (by decide) (by decide) (by decide) (by decide)
theorem PFoot.arF {i:Nat} (e:PFoot q.pb w i):ArF q w i:=Or.inr (Or.inr e)
end plain
def outB (q:AB) (s:AS) (f:Bool) (p:Int×Ent) (s2:PS):Int×AS :=
 let r:=writeM q.pb.sz q.g (upS s2 f) s2.last p.1 p.2.1 (epA s f) ⟨s.ds,s2.pw⟩ s2.xa s2.xb
 let s3:PS:={ s2 with pw:=r.2.1.pw,xa:=r.2.2.1,xb:=r.2.2.2 }
 if r.1≠0 then (r.1,{ s with ds:=r.2.1.ds,ps:=s3 })
 else ((flushP q.pb.sz s3 p.1 p.2.2).1,{ s with ds:=r.2.1.ds,ps:=(flushP q.pb.sz s3 p.1 p.2.2).2 })
def outA (q:AB) (s:AS) (f:Bool) (p:Int×Ent):Int×AS:=outB q s f p { s.ps with last:=IntKind.wrap .u64 (s.ps.last+1) }
theorem ramMB (q:AB) (f:Bool):ramM q.mb f=ramB q.pb f:=by cases f <;> rfl
section calls
variable {w:World} {q:AB} {lk:Int} {s:AS} {R:Value→World→Prop}
theorem ar_out0 (h:ArAt w q lk s) (hok:∀ D∈s.ds,DskOk D) (f:Bool) (hlen:s.ps.es.length≤1000) (hne:s.ps.es≠[]) (hes:∀ e∈s.ps.es,0≤e.1∧e.1<(q.g.d-2)*q.g.c*q.g.s∧SecOk e.2.1)
  (hr:∀ f,upA s f=true→64≤(q.pb.sz-((xsA s.ps f).length:Int)) / 37)
  (hK:∀ p w',p∈s.ps.es→(∀ x∈s.ps.es,¬ cmpR (recOf x) (recOf p)<0)→ArAt w' q lk (outA q s f p).2→Keep (ArF q w) w w'→R (.int .i64 (outA q s f p).1) w') :
  zB Tryz.prog 84 #[.pointer (some ⟨q.a,0,none⟩),.int .i64 (sideN f)] w R:=by
 apply C_array_Array_out
 unfold F_array_Array_out
 have hcap:2≤(q.g.d-2)*q.g.c*q.g.s∧(q.g.d-2)*q.g.c*q.g.s≤15360:=h.set.geo.cap
 refine LdV_has (v:=.pointer (some ⟨q.pb.p,0,none⟩)) h.cells rfl (OpN_some.2 ?_)
 refine pr_Next h.pair (by omega) (fun w1 he=>absurd he hne) fun p w1 hp hmin k1=>T2_mk.2 (OpA_agg.2 ⟨rfl,zA.2 ?_⟩)
 obtain ⟨hp0,hp1,hp2⟩:=hes p hp
 refine copy_of (by rw [zc_rec'];rfl) rfl (one_recV' _) fun w2 hb2 k2 z2=>(Cb_false (p:=_)).2 ?_
 have k02:=k1.trans k2
 refine ar_shorten0 (h.keep0 k02) hr fun w3 k3=>zA.2 ((Cb_false (p:=_)).2 ?_)
 have h3:=h.keep0 (k02.trans k3)
 have hb3:=k3.has hb2 (by simp)
 have k03:=k02.trans k3
 refine LdV_has (v:=.pointer (some ⟨q.pb.p,0,none⟩)) h3.cells rfl (OpN_some.2 ?_)
 refine pr_Take h3.pair fun w4 p4 k4=>zA.2 ?_
 have h4:=h3.ofPair p4 k4
 have hb4:=PFoot.has k4 hb3 (by decide) h3.pair (by decide) (by decide) (by decide)
 have k04:Keep (ArF q w) w w4:=ArF.trans (ArF.none k03) (k4.mono fun i e=>PFoot.arF e)
 generalize hs2:({ s.ps with last:=IntKind.wrap .u64 (s.ps.last+1) }:PS)=s2 at *
 have hv:IntKind.wrap .u64 (s.ps.last+1)=s2.last:=by rw [← hs2]
 rw [hv]
 intro d
 have kd:=Keep.drew (fun _=>False) w4 d
 have h5:=h4.keep0 kd
 have hb5:Has (w4.dr d) w1.heap.size _:=hb4
 have k05:=ArF.trans k04 (ArF.none kd)
 generalize w4.dr d=w5 at *
 generalize hs5:({ s with ps:=s2 }:AS)=s5 at h5
 have e5:s5.ps=s2∧s5.ss=⟨s.ds,s2.pw⟩∧epA s5 f=epA s f:=by rw [← hs5];exact ⟨rfl,rfl,by cases f <;> rfl⟩
 refine ⟨fun w'=>Has w' q.a (.cells (arC q lk s5) 143 (0,0))∧Has w' w1.heap.size (.cells (recV (recOf p)) 246 (0,0)),⟨h5.cells,hb5⟩,?_⟩
 refine LdA_of (cs:=setV q.g q.sp q.g.d.toNat q.sc) rfl (fun w' hw=>⟨_,_,_,hw.1,by show 3+4≤21;decide,arC_set q lk s5⟩) ?_
 refine LdV_of (v:=.pointer (some ⟨q.pb.p,0,none⟩)) (fun w' hw=>⟨_,_,_,hw.1,rfl⟩) (OpN_some.2 ?_)
 refine LdV_of (v:=.int .i64 p.1) (fun w' hw=>⟨_,_,_,hw.2,rfl⟩) (zA.2 ?_)
 refine LdA_of (cs:=secV p.2.1) rfl (fun w' hw=>⟨_,_,_,hw.2,by show 3+16≤19;decide,by
  apply Array.ext'
  simp only [Array.toList_extract,List.extract_eq_take_drop]
  rfl⟩) ⟨side_rng f,?_⟩
 refine LdV_of (v:=.int .u32 (epA s5 f)) (fun w' hw=>⟨_,_,_,hw.1,by cases f <;> rfl⟩) (zA.2 ?_)
 refine pr_Up h5.pair f fun rp rl rc w6 o6 k6=>zC.2 ⟨⟨k6.has h5.cells (by simp),k6.has hb5 (by simp)⟩,?_⟩
 have h6:=h5.keep0 k6
 have hl6:=o6.length
 have hlu:(upS s5.ps f).length≤2:=Nat.le_trans (List.length_filter_le _ _) (by simp)
 have sl6:SlT dLay w6 104 rp rl rc ((upS s5.ps f).map (ramM q.mb)):=by
  have:(upS s5.ps f).map (ramM q.mb)=(upS s5.ps f).map (ramB q.pb):=List.map_congr_left fun g _=>ramMB q g
  rw [this]
  exact SlT.of o6
 have hds:s5.ss.ds=s.ds:=by rw [e5.2.1]
 refine i_WriteM (q:=q.mb) h6.stm (by rw [hds];exact hok) sl6 (by rw [hl6,List.length_map];omega) hp0 hp1 hp2 fun w7 st7 k7=>zA.2 ?_
 have h7:=h6.ofStm st7 k7
 have hb7:=WFoot.has h6.stm k7 (k6.has hb5 (by simp)) (by decide) (by decide) (by decide) (by decide) (by decide)
 have k07:=ArF.trans (ArF.trans k05 (ArF.none k6)) (k7.mono fun i e=>WFoot.arF e)
 refine ⟨⟨WFoot.has h6.stm k7 h6.cells (by decide) (by decide) (by decide) (by decide) (by decide),hb7⟩,?_⟩
 have hW:=hK p
 unfold outA at hW
 rw [hs2] at hW
 unfold outB at hW
 simp only at hW
 have hsz:q.mb.sz=q.pb.sz:=rfl
 rw [e5.1,e5.2.1,e5.2.2,hsz] at h7 ⊢
 generalize writeM q.pb.sz q.g (upS s2 f) s2.last p.1 p.2.1 (epA s f) ⟨s.ds,s2.pw⟩ s2.xa s2.xb=r at h7 hW ⊢
 clear st7 k7
 subst hs5
 refine Cb_of (fun hc=>?_) (fun hc=>?_)
 ·have hc:r.1≠0:=by simpa using hc
  rw [if_pos hc] at hW
  exact Ret_nil.2 (hW w7 hp hmin h7 k07)
 have hc:¬ r.1≠0:=by simpa using hc
 rw [if_neg hc] at hW
 intro d
 have kd:=Keep.drew (fun _=>False) w7 d
 have h8:=h7.keep0 kd
 have hb8:Has (w7.dr d) w1.heap.size _:=hb7
 have k08:=ArF.trans k07 (ArF.none kd)
 generalize w7.dr d=w8 at *
 refine ⟨fun _=>True,trivial,?_⟩
 refine LdV_has (v:=.pointer (some ⟨q.pb.p,0,none⟩)) h8.cells rfl (OpN_some.2 ?_)
 refine LdV_has (v:=.int .i64 p.1) hb8 rfl (zA.2 ?_)
 refine LdV_has (v:=.int .u64 p.2.2) hb8 rfl (zA.2 ?_)
 refine pr_Flushed h8.pair hp0 (by omega) fun w9 p9 k9=>zA.2 ⟨trivial,Ret_nil.2 ?_⟩
 exact hW w9 hp hmin (h8.ofPair p9 k9) (ArF.trans k08 (k9.mono fun i e=>PFoot.arF e))
def setUpA (s:AS) (f v:Bool):AS:={ s with ua:=cond f s.ua v,ub:=cond f v s.ub }
def setEpA (s:AS) (f:Bool) (e:Int):AS:={ s with ea:=cond f s.ea e,eb:=cond f e s.eb }
def aloneA (q:AB) (s:AS) (f:Bool):Int×AS :=
 let s1:=setUpA { s with ps:=(leaveP s.ps (!f)).2 } (!f) false
 let a:=afterS (max (epA s f) (keyS s.ss)) (sideN f)
 if a.2≠0 then (a.2,s1)
 else
  let r:=stampP q.pb.sz s1.ps a.1
  if r.1≠0 then (r.1,{ s1 with ps:=r.2 })
  else (0,setEpA { s1 with ps:=r.2,ds:=(fenceS ⟨s1.ds,r.2.pw⟩ a.1).2.ds } f a.1)
theorem fence_pw (s:SS) (e:Int):(fenceS s e).2.pw=s.pw:=by unfold fenceS;split <;> rfl
theorem ArAt.ofSet {w':World} (h:ArAt w q lk s) {s':SS} (hs:SetAt w' q.sb s') (k:Keep (SFoot q.sb) w w'):ArAt w' q lk { s with ds:=s'.ds,ps:={ s.ps with pw:=s'.pw } } :=
 h.ofStm (h.stm.ofSet hs k) (k.mono fun i e=>Or.inr e)
theorem after_rng {e side:Int} (h0:0≤e) (h:(afterS e side).2=0):0≤(afterS e side).1∧(afterS e side).1≤4294967295:=by
 unfold afterS at h ⊢
 by_cases hs:¬ sideOk side
 ·rw [if_pos hs] at h;exact absurd h (by decide)
 rw [if_neg hs] at h ⊢
 simp only at h ⊢
 generalize hx:(if (e+1) % 2=side then e+1 else e+2)=x at h ⊢
 by_cases hm:4294967295<x
 ·rw [if_pos hm] at h;exact absurd h (by decide)
 rw [if_neg hm]
 refine ⟨?_,by show x≤4294967295;omega⟩
 show 0≤x
 rw [← hx]
 split <;> omega
theorem ar_alone1 (h:ArAt w q lk s) (hok:∀ D∈s.ds,DskOk D) (f:Bool) (hu:upA s (!f)=true) (hl:¬ (livesA s (!f)=true∧s.split=false)) (hep:0≤epA s f∧epA s f≤4294967295) (hkey:0≤keyS s.ss∧keyS s.ss≤4294967295)
  (hr:∀ f,upA s f=true→64≤(q.pb.sz-((xsA s.ps f).length:Int)) / 37)
  (hK:∀ w',ArAt w' q lk (aloneA q s f).2→Keep (ArF q w) w w'→R (.int .i64 (aloneA q s f).1) w'):zB Tryz.prog 79 #[.pointer (some ⟨q.a,0,none⟩),.int .i64 (sideN f)] w R:=by
 apply C_array_Array_alone
 unfold F_array_Array_alone
 simp only [other_side]
 refine ⟨fun st w'=>st.1=false∧w'=w,⟨side_rng _,?_⟩,?_⟩
 ·refine LdV_has (v:=.bool (upA s (!f))) h.cells (by cases f <;> rfl) (OpB_bool.2 ?_)
  rw [hu]
  refine (Cb_false (p:=_)).2 ⟨side_rng _,?_⟩
  refine LdV_has (v:=.bool (livesA s (!f))) h.cells (by cases f <;> rfl) (OpB_bool.2 ?_)
  refine Cb_of (fun hv=>?_) (fun hv=>⟨rfl,rfl⟩)
  refine LdV_has (v:=.bool s.split) h.cells rfl (OpB_bool.2 ⟨?_,rfl⟩)
  cases hs:s.split with
  | true=>rfl
  | false=>exact absurd ⟨hv,hs⟩ hl
 rintro _ ⟨b,u⟩ w1 ⟨hb,rfl⟩
 simp only at hb ⊢
 subst hb
 refine (Cb_false (p:=_)).2 ?_
 unfold aloneA at hK
 refine LdV_has (v:=.pointer (some ⟨q.pb.p,0,none⟩)) h.cells rfl (OpN_some.2 ?_)
 refine pr_Leave h.pair (!f) fun w2 p2 k2=>zA.2 ⟨side_rng _,?_⟩
 have h2:=h.ofPair p2 k2
 have hlx:∀ g,xsA (leaveP s.ps (!f)).2 g=xsA s.ps g:=fun g=>by unfold leaveP;split <;> (cases g <;> rfl)
 generalize leaveP s.ps (!f)=lv at *
 refine StV_of h2.cells (by show _<21;cases f <;> decide) rfl ?_
 have hset:(arC q lk { s with ps:=lv.2 }).setIfInBounds (10+Int.toNat (sideN (!f))*1) (.bool false)=arC q lk (setUpA { s with ps:=lv.2 } (!f) false):=by cases f <;> rfl
 rw [hset]
 have h3:=h2.put (lk':=lk) (s':=setUpA { s with ps:=lv.2 } (!f) false) rfl rfl rfl rfl
 have k3:Keep (ArF q w1) w1 (w2.upd q.a (.cells (arC q lk (setUpA { s with ps:=lv.2 } (!f) false)) 143 (0,0))):=(k2.mono fun i e=>PFoot.arF e).upd (fun _=>Or.inl rfl) _
 generalize w2.upd q.a _=w3 at *
 have hkS:keyS (setUpA { s with ps:=lv.2 } (!f) false).ss=keyS s.ss:=rfl
 have hE:epA (setUpA { s with ps:=lv.2 } (!f) false) f=epA s f:=by cases f <;> rfl
 have hr3:∀ g,upA (setUpA { s with ps:=lv.2 } (!f) false) g=true→64≤(q.pb.sz-((xsA (setUpA { s with ps:=lv.2 } (!f) false).ps g).length:Int)) / 37:=fun g hg=>by
  show 64≤(q.pb.sz-((xsA lv.2 g).length:Int)) / 37
  rw [hlx]
  refine hr g ?_
  revert hg
  cases f <;> cases g <;> simp [setUpA,upA]
 have hds:(setUpA { s with ps:=lv.2 } (!f) false).ds=s.ds:=rfl
 generalize setUpA { s with ps:=lv.2 } (!f) false=s3 at *
 refine ar_shorten0 h3 hr3 fun w4 k4=>zA.2 ((Cb_false (p:=_)).2 fun d=>?_)
 have k4:=k4.dr d
 have h5:=h3.keep0 k4
 have k05:=ArF.trans k3 (ArF.none k4)
 generalize w4.dr d=w5 at *
 refine ⟨fun w'=>Has w' q.a (.cells (arC q lk s3) 143 (0,0)),h5.cells,side_rng f,?_⟩
 refine LdV_of (v:=.int .u32 (epA s3 f)) (fun w' hw=>⟨_,_,_,hw,by cases f <;> rfl⟩) (zA.2 ?_)
 refine LdA_of (cs:=setV q.g q.sp q.g.d.toNat q.sc) rfl (fun w' hw=>⟨_,_,_,hw,by show 3+4≤21;decide,arC_set q lk s3⟩) ?_
 refine st_Key (q:=q.sb) h5.set h5.disks.sl h5.disks.cap.1 fun w6 k6=>zA.2 ?_
 have h6:=h5.keep0 k6
 have k06:=ArF.trans k05 (ArF.none k6)
 rw [hkS,hE]
 refine ⟨h6.cells,DoQ_of (v:=.int .u32 (max (epA s f) (keyS s.ss))) (fun d=>run_max _ _ _ _ _ _) (zA.2 ?_)⟩
 have hmx:=max_rng hep hkey
 refine merge_After hmx.1 hmx.2 (by cases f <;> decide) ?_
 have hrng:=fun hh=>after_rng (side:=sideN f) hmx.1 hh
 generalize afterS (max (epA s f) (keyS s.ss)) (sideN f)=a at *
 refine T2_mk.2 (zA.2 (zA.2 ⟨h6.cells,?_⟩))
 refine Cb_of (fun hc=>?_) (fun hc=>?_)
 ·have hc:a.2≠0:=by simpa using hc
  simp only at hK
  rw [if_pos hc] at hK
  exact Ret_nil.2 (hK w6 h6 k06)
 have hc:¬ a.2≠0:=by simpa using hc
 simp only at hK
 rw [if_neg hc] at hK
 have hep2:=hrng (by simpa using hc)
 refine LdV_has (v:=.pointer (some ⟨q.pb.p,0,none⟩)) h6.cells rfl (OpN_some.2 ?_)
 refine pr_Stamp h6.pair fun w7 p7 k7=>zA.2 ?_
 have h7:=h6.ofPair p7 k7
 have k07:=ArF.trans k06 (k7.mono fun i e=>PFoot.arF e)
 generalize stampP q.pb.sz s3.ps a.1=r at *
 refine Cb_of (fun hc2=>?_) (fun hc2=>?_)
 ·have hc2:r.1≠0:=by simpa using hc2
  rw [if_pos hc2] at hK
  exact Ret_nil.2 (hK w7 h7 k07)
 have hc2:¬ r.1≠0:=by simpa using hc2
 rw [if_neg hc2] at hK
 refine LdA_has (cs:=setV q.g q.sp q.g.d.toNat q.sc) h7.cells (by show 3+4≤21;decide) (arC_set q lk _) ?_
 refine st_Fence (q:=q.sb) h7.set h7.disks.sl h7.disks.cap.1 (fun b o hb=>?_) (by show ∀ D∈s3.ds,DskOk D;rw [hds];exact hok) hep2 fun w8 s8 k8=>zA.2 ⟨side_rng f,?_⟩
 ·obtain ⟨_,cur,hh⟩:=own_has h7.disks b o hb
  exact h7.set.typ hh (by decide) (by decide) (by decide)
 have h8:=h7.ofSet s8 k8
 have k08:=ArF.trans k07 (k8.mono fun i e=>Or.inr (Or.inl e))
 have hpw:(fenceS (AS.ss { s3 with ps:=r.2 }) a.1).2.pw=r.2.pw:=fence_pw _ _
 rw [hpw] at h8
 refine StV_of h8.cells (by show _<21;cases f <;> decide) rfl (Ret_nil.2 ?_)
 have hset2:(arC q lk { s3 with ds:=(fenceS (AS.ss { s3 with ps:=r.2 }) a.1).2.ds,ps:={ r.2 with pw:=r.2.pw } }).setIfInBounds (13+Int.toNat (sideN f)*2+1) (.int .u32 a.1)=arC q lk (setEpA { s3 with ps:=r.2,ds:=(fenceS ⟨s3.ds,r.2.pw⟩ a.1).2.ds } f a.1):=by cases f <;> rfl
 have h9:=h8.put (lk':=lk) (s':=setEpA { s3 with ps:=r.2,ds:=(fenceS ⟨s3.ds,r.2.pw⟩ a.1).2.ds } f a.1) rfl rfl rfl rfl
 rw [← hset2] at h9
 exact hK _ h9 (k08.upd (fun _=>Or.inl rfl) _)
end calls
end Go.Proofs
namespace Go.Proofs
open Go Go.Ev Go.RowKit
set_option maxRecDepth 100000
def KeptB (bs:List Int) (L:List Rec):Prop:=(∀ r∈L,RcOk r)∧∃ t:List Int,t.length<37∧By t∧bs=L.flatMap packB++t
theorem KeptB.scan {bs:List Int} {L:List Rec} (h:KeptB bs L):scanB bs=L:=by
 obtain ⟨h1,t,h2,_,rfl⟩:=h
 unfold scanB
 exact scan_packs L t _ (fun r hr=>h1 r hr) h2 (by rw [List.length_append,recs_len];omega)
theorem KeptB.byb {bs:List Int} {L:List Rec} (h:KeptB bs L):By bs:=by
 obtain ⟨h1,t,_,h3,rfl⟩:=h
 intro x hx
 rcases List.mem_append.1 hx with h | h
 ·exact recs_by h1 x h
 ·exact h3 x h
theorem KeptB.mk {L:List Rec} (h:∀ r∈L,RcOk r):KeptB (L.flatMap packB) L:=⟨h,[],by decide,fun x hx=>by simp at hx,by simp⟩
def WholeB (bs:List Int) (L:List Rec):Prop:=(∀ r∈L,RcOk r)∧bs=L.flatMap packB
theorem WholeB.kept {bs:List Int} {L:List Rec} (h:WholeB bs L):KeptB bs L:=by obtain ⟨h1,rfl⟩:=h;exact KeptB.mk h1
theorem WholeB.app {bs:List Int} {L:List Rec} (h:WholeB bs L) {r:Rec} (hr:RcOk r):WholeB (bs++packB r) (L++[r]):=by
 obtain ⟨h1,rfl⟩:=h
 refine ⟨fun x hx=>?_,by simp⟩
 rcases List.mem_append.1 hx with hx | hx
 ·exact h1 x hx
 ·rw [List.mem_singleton.1 hx];exact hr
theorem gList_skip {D:List Rec} {G:List (Int×List PutS)}:∀ (xs pre:List Rec),(∀ x∈xs,x.kind=4→doneV D x.ver=true∨mlook G x.ver≠none)→gList D pre xs G=G
 | [],_,_=>rfl
 | x::xs,pre,h=>by
  have e:gStep D pre x G=G:=by
   unfold gStep
   rw [if_neg]
   rintro ⟨h1,h2,h3⟩
   rcases h x (by simp) h1 with h | h
   ·rw [h2] at h;cases h
   ·exact h h3
  show gList D (pre++[x]) xs (gStep D pre x G)=G
  rw [e]
  exact gList_skip xs _ fun y hy=>h y (by simp [hy])
theorem pendS_nil {LL:List (List Rec)} (h:pendG LL=[]):pendS LL=[]:=by unfold pendS;rw [h];simp [sortU]
theorem doneV_mem {D:List Rec} {v:Int}:doneV D v=true ↔ ∃ x∈D,x.kind=5∧x.ver=v:=by
 unfold doneV
 rw [List.any_eq_true]
 constructor
 ·rintro ⟨x,h1,h2⟩
  simp only [Bool.and_eq_true,beq_iff_eq] at h2
  exact ⟨x,h1,h2⟩
 ·rintro ⟨x,h1,h2⟩
  exact ⟨x,h1,by simp only [Bool.and_eq_true,beq_iff_eq];exact h2⟩
def recsW (v:Int) (P:List PutS):List Rec:=recsI v P++[recK 5 v]
theorem mem_take_at {α:Type} {l:List α} {n:Nat} {x:α} (h:x∈l.take n):∃ k,k<n∧l[k]? = some x:=by
 obtain ⟨k,hk⟩:=List.mem_iff_getElem?.1 h
 have hk2:=(List.getElem?_eq_some_iff.1 hk).1
 rw [List.length_take] at hk2
 refine ⟨k,by omega,?_⟩
 rw [List.getElem?_take_of_lt (by omega)] at hk
 exact hk
theorem planS_seal {g:Geo} {s:SS} (hs:SsOk g s) {now:Int→Sec} (hi:Inv g s now) (hn:∀ l,SecOk (now l)) (hon:s.pw.on=true) {lba:Int} (h0:0≤lba) (h1:lba<(g.d-2)*g.c*g.s) {data:Sec} (hd:SecOk data) (hlost:lostN (colsS g s (spotP g lba).1 (spotP g lba).2.2)≤2) :
  (planS g s lba data).2=0∧∀ x∈(planS g s lba data).1,Sealed g s x∧sealP x=x:=by
 have hg:=hs.geo
 obtain ⟨pst,pco,pof⟩:=spotP_ok hg h0 h1
 have hrow:=hi.rowR hg hn pst pof hlost
 have hplan:planS g s lba data=(planL g s (spotP g lba).1 (spotP g lba).2.2 (rowW (Go.Proofs.rowR (colsS g s (spotP g lba).1 (spotP g lba).2.2)) (spotP g lba).2.1.toNat data) [(spotP g lba).2.1,g.d-2,g.d-1],0):=by
  unfold planS
  simp only
  rw [if_neg (by rw [hon];decide),if_pos hlost]
 rw [hplan,hrow]
 have hd':=hg.d
 have hls:=lbaP_spot hg lba
 generalize spotP g lba=x at *
 rw [rowW_full (by rw [len_rowT];omega),← rowT_upd_same hg pst.1 pof pco,hls]
 refine ⟨rfl,fun y hy=>?_⟩
 have hfull:=fullT_ok (rowT_ok (g:=g) (upd_ok hn hd lba) x.1 x.2.2)
 have hpo:=planL_ok hg pst pof y hy
 unfold planL at hy
 obtain ⟨k,hk,hyk⟩:=List.mem_filterMap.1 hy
 unfold planK at hyk
 split at hyk
 ·cases hyk
 ·rename_i hal
  cases hyk
  refine ⟨⟨hpo,?_,rfl,?_⟩,rfl⟩
  ·show SecOk ((fullT (rowT g (upd now lba data) x.1 x.2.2)).getD k.toNat (sec []))
   rw [List.getD_eq_getElem?_getD]
   cases hx:(fullT (rowT g (upd now lba data) x.1 x.2.2))[k.toNat]? with
   | none=>exact sec0_ok
   | some f=>exact hfull f (List.mem_of_getElem? hx)
  ·unfold deadS
   show (s.ds.getD (plcP g x.1 x.2.2 k).dk.toNat dsk0).dead=false
   simpa using hal
theorem seal_inR {g:Geo} {s:SS} {x:PutS} (hg:GeoOk g) (h:Sealed g s x):InR x:=by
 obtain ⟨⟨⟨a1,a2⟩,a3,a4⟩,_⟩:=h
 have h1:=hg.d
 have h2:=hg.c
 have h3:=hg.s
 have:g.c*g.s≤8*64:=Int.mul_le_mul h2.2 h3.2 (by omega) (by omega)
 exact ⟨⟨a1,by omega⟩,a3,by omega⟩
theorem recsW_ok {v:Int} (hv:0≤v∧v≤18446744073709551615) {P:List PutS} (h:∀ x∈P,InR x∧SecOk x.cel.data):∀ r∈recsW v P,RcOk r:=fun r hr=>by
 unfold recsW at hr
 rcases List.mem_append.1 hr with hr | hr
 ·exact recsI_ok hv h r hr
 ·rw [List.mem_singleton.1 hr]
  exact ⟨rfl,hv,sec0_okI⟩
theorem badPut_in {x:PutS} (h:InR x):badPut x=false:=by
 obtain ⟨⟨a1,a2⟩,a3,a4⟩:=h
 unfold badPut
 rw [decide_eq_false (by omega),decide_eq_false (by omega),decide_eq_false (by omega),decide_eq_false (by omega)]
 rfl
theorem planS_pw {g:Geo} {ds:List Dsk} {p p':Pow} (h:p.on=true) (h':p'.on=true) (lba:Int) (data:Sec):planS g ⟨ds,p⟩ lba data=planS g ⟨ds,p'⟩ lba data:=by
 unfold planS
 rw [show ({ ds:=ds,pw:=p }:SS).pw.on=true from h,show ({ ds:=ds,pw:=p' }:SS).pw.on=true from h']
 rfl
end Go.Proofs
namespace Go.Proofs
open Go Go.Ev
set_option maxRecDepth 100000
theorem appP_lit {sz:Int} {x:Rec} {pw:Pow} {bs:List Int} (h:Lit0 pw) (hr:37≤sz-(bs.length:Int)):appP pw sz bs x=(0,(stepP pw).2,bs++packB x):=by
 unfold appP
 rw [if_neg (by rw [h.1];decide),if_neg (by omega),if_neg (by rw [(lit_step h).1];decide)]
structure LitM (sz n:Int) (s s':MS):Prop where
 lit:Lit0 s'.pw
 steps:s'.pw.steps=s.pw.steps+n
 a:(s'.xa.length:Int)≤(s.xa.length:Int)+37*n
 b:(s'.xb.length:Int)≤(s.xb.length:Int)+37*n
theorem eachM_lit {sz:Int} {x:Rec}:∀ (fs:List Bool) (s:MS),Lit0 s.pw→0≤s.pw.steps→s.pw.steps+(fs.length:Int)<1000000000000000→37*(fs.length:Int)≤sz-(s.xa.length:Int)→37*(fs.length:Int)≤sz-(s.xb.length:Int) →
  (eachM sz x fs s).1=0∧LitM sz (fs.length:Int) s (eachM sz x fs s).2
 | [],s,h,_,_,_,_=>⟨rfl,h,by simp [eachM],by simp [eachM],by simp [eachM]⟩
 | f::fs,s,h,h0,h1,ha,hb=>by
  simp only [List.length_cons] at h1 ha hb
  have hap:(appM sz x f s).1=0∧Lit0 (appM sz x f s).2.pw∧(appM sz x f s).2.pw.steps=s.pw.steps+1∧((appM sz x f s).2.xa.length:Int)≤(s.xa.length:Int)+37∧((appM sz x f s).2.xb.length:Int)≤(s.xb.length:Int)+37:=by
   have hp:(packB x).length=37:=rfl
   have hs:=steps_wrap h h0 (by omega)
   cases f
   ·have e:=appP_lit (sz:=sz) (x:=x) (bs:=s.xa) h (by omega)
    simp only [appM,e]
    refine ⟨by trivial,(lit_step h).2,hs,?_,by omega⟩
    rw [List.length_append,hp];omega
   ·have e:=appP_lit (sz:=sz) (x:=x) (bs:=s.xb) h (by omega)
    simp only [appM,e]
    refine ⟨by trivial,(lit_step h).2,hs,by omega,?_⟩
    rw [List.length_append,hp];omega
  obtain ⟨p1,p2,p3,p4,p5⟩:=hap
  have e:eachM sz x (f::fs) s=eachM sz x fs (appM sz x f s).2:=by
   show (if _ then _ else _)=_
   rw [if_neg (by simp [p1])]
  rw [e]
  generalize (appM sz x f s).2=t at *
  obtain ⟨i1,i2,i3,i4,i5⟩:=eachM_lit (sz:=sz) (x:=x) fs t p2 (by omega) (by omega) (by omega) (by omega)
  refine ⟨i1,i2,?_,?_,?_⟩ <;> simp only [List.length_cons] <;> omega
theorem eachA_lit {sz:Int} {fs:List Bool} (hfs:fs.length≤2):∀ (rs:List Rec) (s:MS),Lit0 s.pw→0≤s.pw.steps→s.pw.steps+2*(rs.length:Int)<100000000000000→74*(rs.length:Int)≤sz-(s.xa.length:Int)→74*(rs.length:Int)≤sz-(s.xb.length:Int) →
  (eachA sz fs rs s).1=0∧LitM sz ((rs.length:Int)*(fs.length:Int)) s (eachA sz fs rs s).2
 | [],s,h,_,_,_,_=>⟨rfl,h,by simp [eachA],by simp [eachA],by simp [eachA]⟩
 | r::rs,s,h,h0,h1,ha,hb=>by
  simp only [List.length_cons] at h1 ha hb
  obtain ⟨j1,j2,j3,j4,j5⟩:=eachM_lit (sz:=sz) (x:=r) fs s h h0 (by omega) (by omega) (by omega)
  have e:eachA sz fs (r::rs) s=eachA sz fs rs (eachM sz r fs s).2:=by
   show (if _ then _ else _)=_
   rw [if_neg (by simp [j1])]
  rw [e]
  generalize (eachM sz r fs s).2=t at *
  obtain ⟨i1,i2,i3,i4,i5⟩:=eachA_lit (sz:=sz) hfs rs t j2 (by omega) (by omega) (by omega) (by omega)
  have em:((rs.length+1:Nat):Int)*(fs.length:Int)=(rs.length:Int)*(fs.length:Int)+(fs.length:Int):=by
   rw [Int.natCast_add,Int.add_mul];simp
  refine ⟨i1,i2,?_,?_,?_⟩ <;> simp only [List.length_cons] <;> rw [em] <;> omega
theorem eachS_eq {sz:Int} {x:Rec}:∀ (fs:List Bool) (s:PS),eachS sz x fs s=((eachM sz x fs ⟨s.pw,s.xa,s.xb⟩).1,{ s with pw:=(eachM sz x fs ⟨s.pw,s.xa,s.xb⟩).2.pw,xa:=(eachM sz x fs ⟨s.pw,s.xa,s.xb⟩).2.xa,xb:=(eachM sz x fs ⟨s.pw,s.xa,s.xb⟩).2.xb })
 | [],s=>rfl
 | f::fs,s=>by
  have e:app1 sz x f s=((appM sz x f ⟨s.pw,s.xa,s.xb⟩).1,{ s with pw:=(appM sz x f ⟨s.pw,s.xa,s.xb⟩).2.pw,xa:=(appM sz x f ⟨s.pw,s.xa,s.xb⟩).2.xa,xb:=(appM sz x f ⟨s.pw,s.xa,s.xb⟩).2.xb }):=by cases f <;> rfl
  show (if (app1 sz x f s).1≠0 then app1 sz x f s else eachS sz x fs (app1 sz x f s).2)=_
  have e2:eachM sz x (f::fs) ⟨s.pw,s.xa,s.xb⟩=if (appM sz x f ⟨s.pw,s.xa,s.xb⟩).1≠0 then appM sz x f ⟨s.pw,s.xa,s.xb⟩ else eachM sz x fs (appM sz x f ⟨s.pw,s.xa,s.xb⟩).2:=rfl
  rw [e2,e]
  simp only
  split
  ·rfl
  ·rw [eachS_eq fs]
theorem len_upS (s:PS) (f:Bool):(upS s f).length≤2:=Nat.le_trans (List.length_filter_le _ _) (by simp)
theorem mem_look {es:List (Int×Ent)} (hn:(es.map (·.1)).Nodup) {p:Int×Ent} (hp:p∈es):mlook es p.1=some p.2:=by
 induction es with
 | nil=>cases hp
 | cons e es ih =>
  simp only [List.map_cons,List.nodup_cons] at hn
  unfold mlook
  rw [List.find?_cons]
  by_cases h:e.1=p.1
  ·rw [show (e.1==p.1)=true by simpa using h]
   rcases List.mem_cons.1 hp with rfl | h'
   ·rfl
   ·exact absurd (List.mem_map.2 ⟨p,h',h.symm⟩) hn.1
  ·rw [show (e.1==p.1)=false by simpa using h]
   rcases List.mem_cons.1 hp with rfl | h'
   ·exact absurd rfl h
   ·exact ih hn.2 h'
theorem look_new {es:List (Int×Ent)} {x:Int} (h:mlook es x=none) (v:Ent):ins es x v=es++[(x,v)]:=by
 unfold ins
 rw [if_neg]
 intro hh
 obtain ⟨p,hp,he⟩:=List.any_eq_true.1 hh
 unfold mlook at h
 rw [Option.map_eq_none_iff,List.find?_eq_none] at h
 exact h p hp he
theorem del_lt {es:List (Int×Ent)} {p:Int×Ent} (h:p∈es):(del es p.1).length<es.length:=by
 unfold del
 exact List.length_filter_lt_length_iff_exists.2 ⟨p,h,by simp⟩
def capG20 (g:Geo):Int:=(g.d-2)*g.c*g.s
structure Cost (s s':AS) (n m:Int):Prop where
 steps:s'.ps.pw.steps=s.ps.pw.steps+n
 a:(s'.ps.xa.length:Int)≤(s.ps.xa.length:Int)+m
 b:(s'.ps.xb.length:Int)≤(s.ps.xb.length:Int)+m
 last:s'.ps.last=s.ps.last+1
 up:s'.ps.ua=s.ps.ua∧s'.ps.ub=s.ps.ub
def goneE (l:List Int):List (Int×Value):=l.foldl (fun es k=>ins es k (.agg #[])) []
theorem goneE_look (l:List Int) (x:Int):mlook (goneE l) x=if x∈l then some (.agg #[]) else none:=by
 have key:∀ (l:List Int) (es:List (Int×Value)),mlook (l.foldl (fun es k=>ins es k (.agg #[])) es) x=if x∈l then some (.agg #[]) else mlook es x:=by
  intro l
  induction l with
  | nil=>intro es;simp
  | cons k l ih =>
   intro es
   rw [List.foldl_cons,ih]
   by_cases h:x∈l
   ·rw [if_pos h,if_pos (List.mem_cons_of_mem _ h)]
   ·rw [if_neg h,look_ins]
    by_cases e:x=k
    ·rw [if_pos e,if_pos (by rw [e];exact List.mem_cons_self ..)]
    ·rw [if_neg e,if_neg (fun h'=>by rcases List.mem_cons.1 h' with h' | h';exact e h';exact h h')]
 unfold goneE
 rw [key,look_nil]
theorem goneE_succ (l:List Int) (k:Int):goneE (l++[k])=ins (goneE l) k (.agg #[]):=by unfold goneE;rw [List.foldl_append];rfl
theorem bsl_s2 (f h:Sec) (w:World):(Instr.buildSlice 32 2 #[(0,.agg (secV f)),(1,.agg (secV h))]).run Tryz.prog w=.ok (.slice (some ⟨w.heap.size,0,none⟩) 2 2) (w.alloc (.cells (secV f++secV h) 37)) :=
 run_buildSlice w 32 37 2 _ (secV f++secV h) ((Tryz.prog.info? 37).get (by kernel_rfl)) (((Tryz.prog.info? 37).get (by kernel_rfl)).zero.get (by kernel_rfl)) (by kernel_rfl) (by kernel_rfl) (by kernel_rfl) (by decide +kernel) (by decide +kernel) (by kernel_rfl)
section calls
variable {w0 w:World} {p:Option Addr} {l c:Nat} {xs:List Sec}
end calls
section calls
variable {w:World} {q:SB} {s:SS} {R:Value→World→Prop}
end calls
section calls
variable {w:World} {q:SB} {s:SS} {R:Value→World→Prop}
end calls
section calls
variable {w:World} {q:SB} {s:SS} {R:Value→World→Prop}
end calls
section calls
variable {w:World} {q:SB} {s:SS} {R:Value→World→Prop}
end calls
section calls
variable {w:World} {q:SB} {s:SS} {g:Geo} {R:Value→World→Prop}
end calls
structure Good (g:Geo) (s:SS) (now:Int→Sec) (N:Int):Prop where
 ss:SsOk g s
 lit:Lit0 s.pw
 key:∀ i:Nat,(s.ds.getD i dsk0).key≤0
 inv:Inv g s now
 nok:∀ l,SecOk (now l)
 st0:0≤s.pw.steps
 stN:s.pw.steps≤N
theorem newS_good {g:Geo} (hg:GeoOk g):Good g (newS g pw0) now0 0:=⟨newS_ok hg pw0,lit0,fun i=>by rw [newS_key];omega,newS_inv hg pw0,now0_ok,by show (0:Int)≤0;omega,by show (0:Int)≤0;omega⟩
section calls
variable {w w':World} {base:Nat} {g:Geo} {m:Nat} {bks:List (Nat×Nat)} {p:Option Addr} {c:Nat} {s:SS} {now:Int→Sec} {N:Int} {R:Value→World→Prop}
end calls
def V2 (g:Geo) (s:SS) (x y:Int):Prop:=∀ j a,(0≤j∧j<g.d)→(0≤a∧a<g.c*g.s)→viewS s j a=none→j=x∨j=y
theorem V2.lost {g:Geo} (hg:GeoOk g) {s:SS} {x y:Int} (h:V2 g s x y) (st off:Int) (hst:0≤st∧st<g.s) (hof:0≤off∧off<g.c):lostN (colsS g s st off)≤2 :=
 lost_two hg hst hof x y fun k hk hv=>by
  obtain ⟨pk1,pk2⟩:=plcP_ok hg hst hof (k:Int)
  exact h _ _ pk1 pk2 hv
theorem putP_lit {room sz:Int} {s:PS} {f:Bool} {lba:Int} {d:Sec} (hl:Lit0 s.pw) (hs0:0≤s.pw.steps) (hs1:s.pw.steps<10000000000000) (hl0:0≤s.last) (hl1:s.last<1000000000000) (h0:0≤lba) (h1:lba≤100000) (hup:(cond f s.ub s.ua)=true)
  (hroom:mlook s.es lba=none→(s.es.length:Int)<room) (hver:∀ e,mlook s.es lba=some e→e.2≤s.last) (ha:100≤sz-(s.xa.length:Int)) (hb:100≤sz-(s.xb.length:Int)) :
  ∃ M:MS,LitM sz ((upS s f).length:Int) ⟨s.pw,s.xa,s.xb⟩ M∧putP room sz s f lba d=((s.last+1,0),{ s with last:=s.last+1,pw:=M.pw,xa:=M.xa,xb:=M.xb,es:=ins s.es lba (d,s.last+1) }):=by
 have hlu:=len_upS s f
 have hv:IntKind.wrap .u64 (s.last+1)=s.last+1:=wrapU64 (by omega) (by omega)
 have hpe:putE room s.es lba (s.last+1)=0:=by
  unfold putE
  rw [if_neg (by omega)]
  cases hm:mlook s.es lba with
  | none=>simp only;rw [if_neg (by have:=hroom hm;omega)]
  | some e=>simp only;rw [if_neg (by have:=hver e hm;omega)]
 obtain ⟨m1,m2⟩:=eachM_lit (sz:=sz) (x:=⟨1,s.last+1,lba,d⟩) (upS s f) ⟨s.pw,s.xa,s.xb⟩ hl hs0 (by show s.pw.steps+_<_;omega) (by show _≤sz-(s.xa.length:Int);omega) (by show _≤sz-(s.xb.length:Int);omega)
 refine ⟨_,m2,?_⟩
 unfold putP
 rw [if_neg (by omega),if_neg (by rw [hup];decide),if_neg (by rintro ⟨e1,e2⟩;have:=hroom e1;omega)]
 simp only [hv]
 unfold eachP
 rw [eachS_eq]
 have hu:upS { s with last:=s.last+1 } f=upS s f:=rfl
 rw [hu]
 simp only [m1,hpe]
 rfl
structure GoodE (g:Geo) (s:SS) (now:Int→Sec) (ep:Int):Prop where
 ss:SsOk g s
 lit:Lit0 s.pw
 key:∀ i:Nat,(s.ds.getD i dsk0).key≤ep
 inv:Inv g s now
 nok:∀ l,SecOk (now l)
 st0:0≤s.pw.steps
theorem GoodE.pow {g:Geo} {s:SS} {now:Int→Sec} {ep:Int} (h:GoodE g s now ep) {pw:Pow} (hl:Lit0 pw) (h0:0≤pw.steps):GoodE g ⟨s.ds,pw⟩ now ep :=
 ⟨⟨h.ss.geo,h.ss.num,h.ss.len,h.ss.ok⟩,hl,h.key,h.inv.see h.ss.geo (fun _ _ _ _=>rfl),h.nok,h0⟩
theorem Good.toE {g:Geo} {s:SS} {now:Int→Sec} {N:Int} (h:Good g s now N):GoodE g s now 0:=⟨h.ss,h.lit,h.key,h.inv,h.nok,h.st0⟩
structure Qv (q:AB) (s:AS) (fin:Int→Sec) (ep x y:Int):Prop where
 good:∃ now,GoodE q.g s.ss now ep∧∀ l,mlook s.ps.es l=none→now l=fin l
 v2:V2 q.g s.ss x y
 es:∀ l e,mlook s.ps.es l=some e→(0≤l∧l<capG20 q.g)∧e.1=fin l∧0≤e.2∧e.2≤s.ps.last
 nd:(s.ps.es.map (·.1)).Nodup
 last:0≤s.ps.last
 fok:∀ l,SecOk (fin l)
theorem Qv.read {q:AB} {s:AS} {fin:Int→Sec} {ep x y:Int} (h:Qv q s fin ep x y) {l:Int} (h0:0≤l) (h1:l<capG20 q.g):readA q s l=(fin l,0):=by
 unfold readA getV
 cases hl:mlook s.ps.es l with
 | some e=>simp only [if_pos];rw [(h.es l e hl).2.1]
 | none =>
  simp only
  rw [if_neg (by decide)]
  obtain ⟨now,hg,hf⟩:=h.good
  obtain ⟨pst,pco,pof⟩:=spotP_ok hg.ss.geo h0 h1
  rcases hg.inv.read hg.ss.geo hg.nok hg.lit.1 h0 h1 with e | ⟨_,e,_⟩
  ·rw [e,hf l hl]
  ·exact absurd (h.v2.lost hg.ss.geo _ _ pst pof) e
theorem Qv.put {q:AB} {s:AS} {fin:Int→Sec} {ep x y:Int} (h:Qv q s fin ep x y) {f:Bool} {lba:Int} {d:Sec} (hd:SecOk d) (h0:0≤lba) (h1:lba<capG20 q.g) (hup:(cond f s.ps.ub s.ps.ua)=true)
  (hroom:mlook s.ps.es lba=none→(s.ps.es.length:Int)<q.pb.room) (hst:s.ps.pw.steps<10000000000000) (hla:s.ps.last<1000000000000) (ha:100≤q.pb.sz-(s.ps.xa.length:Int)) (hb:100≤q.pb.sz-(s.ps.xb.length:Int)) (hcap:capG20 q.g≤100000) :
  (putP q.pb.room q.pb.sz s.ps f lba d).1.2=0∧Qv q { s with ps:=(putP q.pb.room q.pb.sz s.ps f lba d).2 } (upd fin lba d) ep x y∧Cost s { s with ps:=(putP q.pb.room q.pb.sz s.ps f lba d).2 } ((upS s.ps f).length:Int) 74 ∧
   (putP q.pb.room q.pb.sz s.ps f lba d).2.es=ins s.ps.es lba (d,s.ps.last+1):=by
 obtain ⟨now,hg,hf⟩:=h.good
 have hs0:0≤s.ps.pw.steps:=hg.st0
 have hl0:=h.last
 have hlu:=len_upS s.ps f
 obtain ⟨M,m,hput⟩:=putP_lit (room:=q.pb.room) (sz:=q.pb.sz) (d:=d) hg.lit hs0 hst hl0 hla h0 (by omega) hup hroom (fun e he=>(h.es lba e he).2.2.2) ha hb
 rw [hput]
 have m3:M.pw.steps=s.ps.pw.steps+((upS s.ps f).length:Int):=m.steps
 have m4:(M.xa.length:Int)≤(s.ps.xa.length:Int)+37*((upS s.ps f).length:Int):=m.a
 have m5:(M.xb.length:Int)≤(s.ps.xb.length:Int)+37*((upS s.ps f).length:Int):=m.b
 refine ⟨rfl,⟨⟨now,hg.pow (pw:=M.pw) m.lit (by omega),fun l hl=>?_⟩,h.v2,fun l e hl=>?_,keys_nodup_ins h.nd _ _,by show 0≤s.ps.last+1;omega,upd_ok h.fok hd lba⟩,⟨m3,by show (M.xa.length:Int)≤_;omega,by show (M.xb.length:Int)≤_;omega,rfl,rfl,rfl⟩,rfl⟩
 ·have hl:mlook (ins s.ps.es lba (d,s.ps.last+1)) l=none:=hl
  rw [look_ins] at hl
  split at hl
  ·cases hl
  ·rename_i hne
   unfold upd
   rw [if_neg hne,hf l hl]
 ·have hl:mlook (ins s.ps.es lba (d,s.ps.last+1)) l=some e:=hl
  rw [look_ins] at hl
  unfold upd
  split at hl
  ·rename_i he
   cases hl
   subst he
   exact ⟨⟨h0,h1⟩,by rw [if_pos rfl],by show 0≤s.ps.last+1;omega,by show s.ps.last+1≤s.ps.last+1;omega⟩
  ·rename_i hne
   obtain ⟨e1,e2,e3,e4⟩:=h.es l e hl
   exact ⟨e1,by rw [if_neg hne];exact e2,e3,by show e.2≤s.ps.last+1;omega⟩
theorem getD_mapA {s:SS} {f:Dsk→Dsk} {pw:Pow} (i:Nat):(SS.mk (s.ds.map f) pw).ds.getD i dsk0=if i<s.ds.length then f (s.ds.getD i dsk0) else dsk0:=by
 simp only
 rw [List.getD_eq_getElem?_getD,List.getElem?_map,List.getD_eq_getElem?_getD]
 by_cases h:i<s.ds.length
 ·rw [if_pos h,List.getElem?_eq_getElem h];rfl
 ·rw [if_neg h,List.getElem?_eq_none (by omega)];rfl
theorem fence_view (s:SS) (e:Int) (i a:Int):viewS (fenceS s e).2 i a=viewS s i a:=by
 unfold fenceS
 split
 ·rfl
 ·show viewS ⟨s.ds.map fun D=>(fenceD s.pw D e).2,s.pw⟩ i a=_
  unfold viewS
  rw [getD_mapA]
  split
  ·unfold cellD
   rw [fenceD_len]
   have:(fenceD s.pw (s.ds.getD i.toNat dsk0) e).2.dead=(s.ds.getD i.toNat dsk0).dead:=by
    unfold fenceD
    split
    ·rfl
    ·split <;> rfl
   rw [this]
  ·rename_i h
   rw [List.getD_eq_getElem?_getD,List.getElem?_eq_none (by omega)];rfl
theorem fence_dead (s:SS) (e:Int) (i:Int):deadS (fenceS s e).2 i=deadS s i:=by
 unfold fenceS
 split
 ·rfl
 ·show deadS ⟨s.ds.map fun D=>(fenceD s.pw D e).2,s.pw⟩ i=_
  unfold deadS
  rw [getD_mapA]
  split
  ·unfold fenceD
   split
   ·rfl
   ·split <;> rfl
  ·rename_i h
   rw [List.getD_eq_getElem?_getD,List.getElem?_eq_none (by omega)];rfl
theorem fence_ok {g:Geo} {s:SS} (h:SsOk g s) {e:Int} (he:0≤e∧e≤4294967295):SsOk g (fenceS s e).2:=by
 unfold fenceS
 split
 ·exact h
 ·refine ⟨h.geo,by simpa using h.num,fun D hD=>?_,fun D hD=>?_⟩
  ·obtain ⟨E,hE,rfl⟩:=List.mem_map.1 hD
   rw [fenceD_len]
   exact h.len E hE
  ·obtain ⟨E,hE,rfl⟩:=List.mem_map.1 hD
   exact fenceD_ok (h.ok E hE) he
theorem fence_key {s:SS} {e:Int} (h0:0≤e) (h:∀ i:Nat,(s.ds.getD i dsk0).key≤e) (i:Nat):((fenceS s e).2.ds.getD i dsk0).key≤e:=by
 unfold fenceS
 split
 ·exact h i
 ·show ((SS.mk (s.ds.map fun D=>(fenceD s.pw D e).2) s.pw).ds.getD i dsk0).key≤e
  rw [getD_mapA]
  split
  ·have:=h i
   unfold fenceD
   split
   ·exact this
   ·split
    ·exact this
    ·show max _ _≤e
     omega
  ·exact h0
theorem keyL_le {e:Int}:∀ (l:List Dsk) (k:Int),k≤e→(∀ D∈l,D.key≤e)→keyL k l≤e
 | [],k,hk,_=>hk
 | D::l,k,hk,h=>by
  show keyL (if D.dead=true then k else max k D.key) l≤e
  refine keyL_le l _ ?_ fun E hE=>h E (by simp [hE])
  have:=h D (by simp)
  split <;> omega
theorem keyS_le {s:SS} {e:Int} (h0:0≤e) (h:∀ i:Nat,(s.ds.getD i dsk0).key≤e):keyS s≤e:=by
 refine keyL_le _ _ h0 fun D hD=>?_
 obtain ⟨i,hi,rfl⟩:=List.mem_iff_getElem.1 hD
 have:=h i
 rw [List.getD_eq_getElem?_getD,List.getElem?_eq_getElem hi] at this
 exact this
theorem keyS_nn (s:SS):0≤keyS s:=by
 have:∀ (l:List Dsk) (k:Int),0≤k→0≤keyL k l:=by
  intro l
  induction l with
  | nil=>intro k h;exact h
  | cons D l ih =>
   intro k h
   show 0≤keyL (if D.dead=true then k else max k D.key) l
   refine ih _ ?_
   split <;> omega
 exact this _ _ (by decide)
def setLiveA (s:AS) (f v:Bool):AS:={ s with la:=cond f s.la v,lb:=cond f v s.lb }
theorem ar_Crash0 {w:World} {q:AB} {s:AS} {R:Value→World→Prop} (h:ArAt w q 0 s) (f:Bool) (hon:s.ps.pw.on=true) (hl:livesA s f=true) (hK:∀ w',ArAt w' q 0 (setLiveA s f false)→Keep (ArF q w) w w'→R (.int .i64 0) w') :
  zB Tryz.prog 22 #[.pointer (some ⟨q.a,0,none⟩),.int .i64 (sideN f)] w R:=by
 apply C_array_Array_Crash
 unfold F_array_Array_Crash
 refine ar_lock h fun w1 h1 k1=>?_
 refine ar_on h1 (ma_On h1.pair.main (OpB_bool.2 ?_))
 rw [hon]
 refine (Cb_false (p:=_)).2 ⟨rfl,rfl,?_⟩
 have e:(cond (decide (sideN f<0)) true (decide (sideN f>1)))=false:=by cases f <;> rfl
 rw [e]
 refine (Cb_false (p:=_)).2 ⟨side_rng f,?_⟩
 refine LdV_has (v:=.bool (livesA s f)) h1.cells (by cases f <;> rfl) (OpB_bool.2 ?_)
 rw [hl]
 refine (Cb_false (p:=_)).2 ⟨side_rng f,?_⟩
 refine StV_of h1.cells (by show _<21;cases f <;> decide) rfl ?_
 have hset:(arC q 1 s).setIfInBounds (13+Int.toNat (sideN f)*2) (.bool false)=arC q 1 (setLiveA s f false):=by cases f <;> rfl
 rw [hset]
 have h2:=h1.put (lk':=1) (s':=setLiveA s f false) rfl rfl rfl rfl
 have k2:Keep (ArF q w) w (w1.upd q.a (.cells (arC q 1 (setLiveA s f false)) 143 (0,0))):=(k1.mono fun i e=>Or.inl e).upd (fun _=>Or.inl rfl) _
 generalize w1.upd q.a _=w2 at *
 exact ar_unlock h2 fun w3 h3 k3=>hK w3 h3 (k2.trans' k3 fun i hi e=>Or.inl e)
theorem gate_ok {d:Dk} {cap init:Int} {c:Cmd} (hk:¬ c.k=4) (h:(gateD d cap init c).2=false):1≤cntC c∧cntC c≤8∧0≤c.lba∧c.lba+cntC c≤cap:=by
 unfold gateD at h
 split at h
 ·cases h
 ·rename_i h1
  have h2:cdE c cap=0:=Classical.byContradiction fun e=>h1 (Or.inr (Or.inr e))
  unfold cdE at h2
  rw [if_neg hk] at h2
  split at h2
  ·cases h2
  ·rename_i h3
   refine ⟨?_,?_,?_,?_⟩ <;> omega
section calls
variable {w w0:World} {q:AB} {s:AS} {b b1:Nat} {c:Cmd} {R:Value→World→Prop}
theorem DoSt.grow (h:DoSt w0 w q s b b1 c) {w':World} {p:Option Addr} {l cc:Nat} {xs:List Sec} (o:OwnL secLay w w0.heap.size 37 p l cc xs) (k:Keep (fun k=>p=some ⟨k,0,none⟩) w w'):DoSt w0 w' q s b b1 c:=by
 cases p with
 | none=>exact h.keep0 (k.mono fun i e=>by cases e)
 | some a =>
  obtain ⟨b',cur,h0,hb',hg,_⟩:=(Own.cases o).resolve_left (by rintro ⟨e,_⟩;cases e)
  cases h0
  refine h.tmp hg (Or.inl rfl) hb' (fun e=>?_) (k.mono fun i e=>by cases e;rfl)
  subst e
  have:=hg.inj h.rep
  simp only [Obj.cells.injEq] at this
  exact absurd this.2.1 (by decide)
def readsA (q:AB) (s:AS) (lba:Int) (n:Nat):List Sec:=(List.range n).map fun (k:Nat)=>(readA q s (lba+(k:Int))).1
theorem readsA_succ (q:AB) (s:AS) (lba:Int) (n:Nat):readsA q s lba (n+1)=readsA q s lba n++[(readA q s (lba+(n:Int))).1]:=by
 unfold readsA;rw [List.range_succ,List.map_append];rfl
theorem ar_DoRead (h:ArAt w q 0 s) (f:Bool) {init:Int} (hk:c.k=2) (hr:readyA s f=true) {s':AS} (hd:s'.d=s.d) (ha:∀ (w1:World) (R1:Value→World→Prop),ArAt w1 q 1 s→(∀ w2,ArAt w2 q 1 s'→Keep (ArF q w1) w1 w2→R1 (.int .i64 0) w2)→zB Tryz.prog 79 #[.pointer (some ⟨q.a,0,none⟩),.int .i64 (sideN f)] w1 R1)
  (hg:(gateD s.d ((q.g.d-2)*q.g.c*q.g.s) init c).2=false) (hok:∀ D∈s'.ds,DskOk D) (hgood:∀ k:Nat,(k:Int)<c.n→(readA q s' (c.lba+(k:Int))).2=0)
  (hK:∀ p cc w',ArAt w' q 0 s'→Keep (ArF q w) w w'→OwnL secLay w' w.heap.size 37 p c.n.toNat cc (readsA q s' c.lba c.n.toNat)→R (.agg (repC 1 0 p c.n.toNat cc)) w') :
  zB Tryz.prog 16 #[.pointer (some ⟨q.a,0,none⟩),.int .i64 (sideN f),.int .i64 init,.agg (cmdC c)] w R:=by
 refine ar_DoOpen h f (Or.inl hk) hr hd ha (fun ht=>by rw [hg] at ht;cases ht) fun _ b b1 w1 hS=>?_
 obtain ⟨g1,g2,g3,g4⟩:=gate_ok (by omega) hg
 have hn:cntC c=c.n:=by unfold cntC;rw [if_pos hk]
 rw [hn] at g1 g2 g4
 clear hn
 have hcap:2≤(q.g.d-2)*q.g.c*q.g.s∧(q.g.d-2)*q.g.c*q.g.s≤15360:=h.set.geo.cap
 unfold DoBody
 refine DoQ_of (fun _=>bld_rep1 1 _) (OpA_agg.2 ⟨rfl,?_⟩)
 refine alc_fresh fun w2 hb2 k2 z2=>?_
 rw [zc_rep] at hb2
 have hS2:=hS.keep0 k2
 have hne:w1.heap.size≠b1:=fun e=>by have:=hS.rep.lt;omega
 have hlo:w.heap.size≤w1.heap.size:=hS.keep.size
 refine StA_all hb2 rfl rfl (one_repC _ _ _ _ _) ?_
 have hS3:=hS2.tmp hb2 (Or.inr rfl) hlo hne (Keep.one _ _ (.cells (repC 1 0 none 0 0) 34 (0,0)))
 have hb3:=hb2.upd_same (.cells (repC 1 0 none 0 0) 34 (0,0))
 clear hS2 hb2 k2
 generalize w2.upd w1.heap.size (.cells (repC 1 0 none 0 0) 34 (0,0))=w3 at *
 generalize w1.heap.size=b7 at *
 refine LdV_has (v:=.int .i64 c.k) hS3.cmd rfl (zA.2 ?_)
 rw [hk]
 refine ⟨fun _ w'=>∃ p cc,Has w' b7 (.cells (repC 1 0 p c.n.toNat cc) 34 (0,0))∧OwnL secLay w' w.heap.size 37 p c.n.toNat cc (readsA q s' c.lba c.n.toNat)∧DoSt w w' q s' b b1 c,?_,?_⟩
 ·refine (Cb_true (q:=_)).2 ?_
  refine LdV_has (v:=.int .i64 c.n) hS3.cmd rfl (zA.2 ?_)
  refine LoopC_of (σ:=Int×Unit) (fun st w'=>∃ (k:Nat) (p:Option Addr) (cc:Nat),st.1=(k:Int)∧(k:Int)≤c.n∧Has w' b7 (.cells (repC 1 0 p k cc) 34 (0,0))∧OwnL secLay w' w.heap.size 37 p k cc (readsA q s' c.lba k)∧DoSt w w' q s' b b1 c) (fun st _=>(c.n-st.1).toNat)
   ⟨0,none,0,rfl,by omega,hb3,OwnL.nil,hS3⟩ ?_
  clear hS3 hb3 hS
  rintro _ ⟨i,u⟩ w4 ⟨k,p,cc,hi,hkn,hb4,o4,hS4⟩
  simp only at hi ⊢
  subst hi
  refine Cb_of (fun hc=>?_) (fun hc=>?_)
  ·have hc:(k:Int)<c.n:=by simpa using hc
   refine LdV_has (v:=.int .i64 c.lba) hS4.cmd rfl (zA.2 ?_)
   rw [wrapI (by omega) (by omega)]
   refine ar_read hS4.ar hok (by omega) (by omega) fun w5 k5=>?_
   rw [hgood k hc]
   refine T2_mk.2 (OpA_agg.2 ⟨rfl,zA.2 ?_⟩)
   refine alc_fresh fun w6 hb6 k6 z6=>?_
   have k46:=k5.trans k6
   have hS6:=hS4.keep0 k46
   have hne5:w5.heap.size≠b1:=fun e=>by have:=(hS4.keep0 k5).rep.lt;omega
   have hlo5:w.heap.size≤w5.heap.size:=(hS4.keep0 k5).keep.size
   have hb46:=k46.has hb4 (by simp)
   have h75:w5.heap.size≠b7:=fun e=>by have:=(k5.has hb4 (by simp)).lt;omega
   refine StA_all hb6 rfl (by rw [zc_sec];rfl) (one_secV _) ?_
   have ku:=Keep.one w6 w5.heap.size (.cells (secV (readA q s' (c.lba+(k:Int))).1) 37 (0,0))
   have hS7:=hS6.tmp hb6 (Or.inl rfl) hlo5 hne5 ku
   have hb7:=hb6.upd_same (.cells (secV (readA q s' (c.lba+(k:Int))).1) 37 (0,0))
   have hr7:=ku.has hb46 (fun e=>h75 e.symm)
   have o7:=(o4.keep k46 (by simp)).keep ku fun x hx e=>by
    have:=(o4.keep k5 (by simp)).lt hx
    omega
   clear ku hS6 hb46 hb6
   generalize w6.upd w5.heap.size (.cells (secV (readA q s' (c.lba+(k:Int))).1) 37 (0,0))=w7 at *
   refine (Cb_false (p:=_)).2 ?_
   refine LdV_has (v:=.slice p k cc) hr7 rfl (zC.2 ?_)
   refine LdA_all hb7 rfl ?_
   refine ⟨_,_,bsl_s1 _ w7,zC.2 ?_⟩
   have k8:Keep (fun _=>False) w7 (w7.alloc (.cells (secV (readA q s' (c.lba+(k:Int))).1) 37)):=Keep.new _ _ _
   have hb8:Has (w7.alloc (.cells (secV (readA q s' (c.lba+(k:Int))).1) 37)) w7.heap.size (.cells (secV (readA q s' (c.lba+(k:Int))).1) 37 (0,0)):=Has.new _ _
   generalize w7.alloc (.cells (secV (readA q s' (c.lba+(k:Int))).1) 37)=w8 at *
   have hS8:=hS7.keep0 k8
   have hr8:=k8.has hr7 (by simp)
   have o8:=o7.keep k8 (by simp)
   obtain ⟨p9,c9,w9,hr,o9,k9,_⟩:=run_appendF1 secLayT o8 (y:=(readA q s' (c.lba+(k:Int))).1) hb8 (by show secV _=((secV _).toList).toArray;simp) (ty:=32) (by omega) (by simp only [maxLen];omega) hS8.keep.size (c2:=1)
   refine ⟨_,_,hr,zC.2 ?_⟩
   have hS9:=hS8.grow o8 k9
   have hr9:=k9.has hr8 fun e=>by
    obtain ⟨_,cur,hh⟩:=own_has o8 _ _ e
    have:=hh.inj hr8
    simp only [Obj.cells.injEq] at this
    exact absurd this.2.1 (by decide)
   refine StV_of hr9 (by show 2<3;decide) rfl ?_
   have ku:=Keep.one w9 b7 (.cells ((repC 1 0 p k cc).setIfInBounds 2 (.slice p9 (k+1) c9)) 34 (0,0))
   have hS10:=hS9.tmp hr9 (Or.inr rfl) hlo hne ku
   have hr10:=hr9.upd_same (.cells (repC 1 0 p9 (k+1) c9) 34 (0,0))
   have o10:=o9.keep ku fun x hx e=>by
    obtain ⟨_,cur,hh⟩:=own_has o9 _ _ hx
    subst e
    have:=hh.inj hr9
    simp only [Obj.cells.injEq] at this
    exact absurd this.2.1 (by decide)
   rw [wrapI (by omega) (by omega)]
   refine ⟨_,?_,⟨k+1,p9,c9,by show (k:Int)+1=((k+1:Nat):Int);omega,by omega,hr10,by rw [readsA_succ];exact o10,hS10⟩,rfl⟩
   show (c.n-((k:Int)+1)).toNat<(c.n-(k:Int)).toNat
   omega
  ·have hc:¬ (k:Int)<c.n:=by simpa using hc
   have e:c.n.toNat=k:=by omega
   rw [e]
   exact ⟨p,cc,hb4,o4,hS4⟩
 rintro _ _ w4 ⟨p,cc,hb4,o4,hS4⟩
 refine LdA_all hb4 rfl ?_
 refine doEnd hS4 rfl (one_repC _ _ _ _ _) fun w5 h5 k5 kk=>hK p cc w5 h5 k5 (o4.keep kk fun x hx e=>?_)
 obtain ⟨_,cur,hh⟩:=own_has o4 _ _ hx
 rcases e with e | e
 ·subst e
  have:=hh.inj hS4.rep
  simp only [Obj.cells.injEq] at this
  exact absurd this.2.1 (by decide)
 ·subst e
  have:=hh.inj hS4.ar.cells
  simp only [Obj.cells.injEq] at this
  exact absurd this.2.1 (by decide)
theorem ar_DoWrite (h:ArAt w q 0 s) (f:Bool) {init:Int} (hk:c.k=3) (hr:readyA s f=true) {s':AS} (hd:s'.d=s.d) (ha:∀ (w1:World) (R1:Value→World→Prop),ArAt w1 q 1 s→(∀ w2,ArAt w2 q 1 s'→Keep (ArF q w1) w1 w2→R1 (.int .i64 0) w2)→zB Tryz.prog 79 #[.pointer (some ⟨q.a,0,none⟩),.int .i64 (sideN f)] w1 R1)
  (hg:(gateD s.d ((q.g.d-2)*q.g.c*q.g.s) init c).2=false) {xs:List Sec} (hlen:c.dl=xs.length) (hx:∀ w',Keep (ArF q w) w w'→SlL secLay w' c.dp c.dl xs) (Iv:Nat→AS→Prop) (Bad:AS→Prop) (h0:Iv 0 s')
  (hstep:∀ (k:Nat) (x:Sec) (s1:AS) (w1:World) (R1:Value→World→Prop),xs[k]? = some x→Iv k s1→ArAt w1 q 1 s1→(∀ e s2 w2,ArAt w2 q 1 s2→Keep (ArF q w1) w1 w2→(e=0∧Iv (k+1) s2∨e≠0∧Bad s2)→R1 (.int .i64 e) w2) →
   zB Tryz.prog 82 #[.pointer (some ⟨q.a,0,none⟩),.int .i64 (sideN f),.int .i64 (c.lba+(k:Int)),.agg (secV x)] w1 R1)
  (hK:∀ s' w',Iv xs.length s'→ArAt w' q 0 s'→Keep (ArF q w) w w'→R (.agg (repC 1 0 none 0 0)) w')
  (hB:∀ s' w',Bad s'→ArAt w' q 0 s'→Keep (ArF q w) w w'→R (.agg (if s'.ps.pw.on=true then repC 2 13 none 0 0 else repC 0 0 none 0 0)) w') :
  zB Tryz.prog 16 #[.pointer (some ⟨q.a,0,none⟩),.int .i64 (sideN f),.int .i64 init,.agg (cmdC c)] w R:=by
 refine ar_DoOpen h f (Or.inr (Or.inl hk)) hr hd ha (fun ht=>by rw [hg] at ht;cases ht) fun _ b b1 w1 hS=>?_
 obtain ⟨g1,g2,g3,g4⟩:=gate_ok (by omega) hg
 have hn:cntC c=(c.dl:Int):=by unfold cntC;rw [if_neg (by omega)]
 rw [hn] at g1 g2 g4
 clear hn
 have hcap:2≤(q.g.d-2)*q.g.c*q.g.s∧(q.g.d-2)*q.g.c*q.g.s≤15360:=h.set.geo.cap
 unfold DoBody
 refine DoQ_of (fun _=>bld_rep1 1 _) (OpA_agg.2 ⟨rfl,?_⟩)
 refine alc_fresh fun w2 hb2 k2 z2=>?_
 rw [zc_rep] at hb2
 have hS2:=hS.keep0 k2
 have hne:w1.heap.size≠b1:=fun e=>by have:=hS.rep.lt;omega
 have hlo:w.heap.size≤w1.heap.size:=hS.keep.size
 refine StA_all hb2 rfl rfl (one_repC _ _ _ _ _) ?_
 have hS3:=hS2.tmp hb2 (Or.inr rfl) hlo hne (Keep.one _ _ (.cells (repC 1 0 none 0 0) 34 (0,0)))
 have hb3:=hb2.upd_same (.cells (repC 1 0 none 0 0) 34 (0,0))
 clear hS2 hb2 k2
 generalize w2.upd w1.heap.size (.cells (repC 1 0 none 0 0) 34 (0,0))=w3 at *
 generalize w1.heap.size=b7 at *
 refine LdV_has (v:=.int .i64 c.k) hS3.cmd rfl (zA.2 ?_)
 rw [hk]
 refine ⟨fun _ w'=>∃ s',Iv xs.length s'∧Has w' b7 (.cells (repC 1 0 none 0 0) 34 (0,0))∧DoSt w w' q s' b b1 c,?_,?_⟩
 ·refine (Cb_false (p:=_)).2 ⟨fun st w'=>st.1=true∧w'=w3,(Cb_true (q:=_)).2 ⟨rfl,rfl⟩,?_⟩
  rintro _ ⟨g,u⟩ w4 ⟨hg4,rfl⟩
  simp only at hg4 ⊢
  subst hg4
  refine (Cb_true (q:=_)).2 ?_
  refine LdV_has (v:=.slice c.dp c.dl c.dc) hS3.cmd rfl (zC.2 ?_)
  refine LdV_has (v:=.int .i64 c.k) hS3.cmd rfl (zA.2 ?_)
  rw [hk]
  refine ⟨fun st w'=>st.1=(c.dp,c.dl,c.dc)∧w'=w4,(Cb_false (p:=_)).2 ⟨rfl,rfl⟩,?_⟩
  rintro _ ⟨g,u⟩ w5 ⟨hg5,rfl⟩
  simp only at hg5 ⊢
  subst hg5
  refine LoopC_of (σ:=Int×Unit) (fun st w'=>∃ (k:Nat) (s':AS),st.1=(k:Int)∧k≤xs.length∧Iv k s'∧Has w' b7 (.cells (repC 1 0 none 0 0) 34 (0,0))∧DoSt w w' q s' b b1 c) (fun st _=>((xs.length:Int)-st.1).toNat)
   ⟨0,s',rfl,by omega,h0,hb3,hS3⟩ ?_
  clear hS3 hb3 hS
  rintro _ ⟨i,u⟩ w4 ⟨k,s',hi,hkn,hv,hb4,hS4⟩
  simp only at hi ⊢
  subst hi
  refine Cb_of (fun hc=>?_) (fun hc=>?_)
  ·have hc:(k:Int)<(c.dl:Int):=by simpa using hc
   obtain ⟨x,hxk⟩:∃ x,xs[k]? = some x:=⟨_,List.getElem?_eq_getElem (show k<xs.length by omega)⟩
   have hx4:=hx _ hS4.keep
   refine hx4.ldA rfl (by omega) (by simpa using hxk) ?_
   show Alc _ _ _ _
   refine copy_of (by rw [zc_sec];rfl) (by simp [secLay]) (by intro v hv;exact one_secV x v (by simpa [secLay] using hv)) fun w6 hb6 k6 z6=>?_
   have e:(secLay.row x).toArray=secV x:=by simp [secLay]
   rw [e] at hb6
   have hS6:=hS4.keep0 k6
   have hb46:=k6.has hb4 (by simp)
   refine LdV_has (v:=.int .i64 c.lba) hS6.cmd rfl (zA.2 ?_)
   refine LdA_all hb6 rfl ?_
   rw [wrapI (by omega) (by omega)]
   refine hstep k x s' w6 _ hxk hv hS6.ar fun e2 s2 w7 h7 k7 hor=>zA.2 ?_
   have hS7:=hS6.to h7 k7
   have hb7:=k7.has hb46 (ArF.not hS6.ar hb46 (by decide) (by decide) (by decide) (by decide) (by decide) (by decide) (by decide))
   rcases hor with ⟨he,hv2⟩ | ⟨he,hbad⟩
   ·subst he
    refine (Cb_false (p:=_)).2 ?_
    rw [wrapI (by omega) (by omega)]
    refine ⟨_,?_,⟨k+1,s2,by show (k:Int)+1=((k+1:Nat):Int);omega,by omega,hv2,hb7,hS7⟩,rfl⟩
    show ((xs.length:Int)-((k:Int)+1)).toNat<((xs.length:Int)-(k:Int)).toNat
    omega
   ·have e3:(e2 !=0)=true:=by simpa using he
    rw [e3]
    refine (Cb_true (q:=_)).2 ?_
    refine ar_check hS7.ar 13 fun w8 k8=>?_
    refine OpA_agg.2 ⟨by split <;> rfl,?_⟩
    refine doEnd (hS7.keep0 k8) (by split <;> rfl) (by intro v hv;split at hv <;> exact one_repC _ _ _ _ _ v hv) fun w9 h9 k9 _=>hB s2 w9 hbad h9 k9
  ·have hc:¬ (k:Int)<(c.dl:Int):=by simpa using hc
   have e:xs.length=k:=by omega
   rw [e]
   exact ⟨s',hv,hb4,hS4⟩
 rintro _ _ w4 ⟨s',hv,hb4,hS4⟩
 refine LdA_all hb4 rfl ?_
 exact doEnd hS4 rfl (one_repC _ _ _ _ _) fun w5 h5 k5 _=>hK s' w5 hv h5 k5
end calls
end Go.Proofs
namespace Go.Proofs
open Go Go.Ev Go.ChangeShapes Go.WideShapes Go.ChangeAt Go.RowKit
open Go.Proofs.YthhimblbnnafkaaGreat.Rows (uptoBulk uptoBulkAll uptoBulkEntries uptoSmall)
section
variable {H:Type} {enc:TypeId×Value→H} {P:Program} {w:World} {base:Nat} {spare:Nat→Bool} {held:Bool}
theorem bulk_pos:∀ d:DataW H,1≤uptoBulk d
 | .lit l=>by cases l <;> simp [uptoBulk]
 | .nil=>by simp [uptoBulk]
 | .ptr d=>by simp [uptoBulk]
 | .slice e s=>by simp [uptoBulk]
 | .agg p=>by simp [uptoBulk]
 | .iface _ d=>by simp [uptoBulk]
 | .map e=>by simp [uptoBulk]
 | .held _=>by simp [uptoBulk]
theorem bulkAll_sum:∀ l:List (DataW H),uptoBulkAll l=(l.map uptoBulk).sum
 | []=>rfl
 | d::l=>by simp [uptoBulkAll,bulkAll_sum l]
theorem sum_le {α:Type} {f g:α→Nat}:∀ {l:List α},(∀ x∈l,f x≤g x)→(l.map f).sum≤(l.map g).sum
 | [],_=>by simp
 | a::l,h=>by
  simp only [List.map_cons,List.sum_cons]
  have:=h a (by simp)
  have:=sum_le (l:=l) fun x hx=>h x (by simp [hx])
  omega
theorem bulk_slice (D:Nat→DataW H) (n:Nat) (s:List (DataW H)) (f:Nat→Nat) (h:∀ i,i<n→f i≤uptoBulk (D i)):((List.range n).map f).sum+1≤uptoBulk (.slice ((List.range n).map D) s):=by
 simp only [uptoBulk,bulkAll_sum,List.map_map]
 have:=sum_le (l:=List.range n) (f:=f) (g:=uptoBulk ∘ D) fun i hi=>h i (List.mem_range.1 hi)
 omega
theorem sum_ones (n:Nat):((List.range n).map fun _=>1).sum=n:=by
 induction n with
 | zero=>rfl
 | succ n ih=>rw [List.range_succ,List.map_append,List.sum_append,ih];rfl
theorem small_mem {ds:List (DataW H)} (h:uptoSmall H ds=true) {d:DataW H} (hd:d∈ds):uptoBulk d≤1048576:=by
 have h1:uptoBulkAll ds≤1048576:=by simpa [uptoSmall] using h
 rw [bulkAll_sum] at h1
 have:∀ l:List (DataW H),d∈l→uptoBulk d≤(l.map uptoBulk).sum:=by
  intro l
  induction l with
  | nil=>simp
  | cons a l ih =>
   intro hd
   simp only [List.map_cons,List.sum_cons]
   rcases List.mem_cons.1 hd with rfl | hd
   ·omega
   ·have:=ih hd;omega
 have:=this ds hd
 omega
theorem sl_cells {t e:TypeId} {ks:List CK} {fuel:Nat} {cs:List Value} {x:DataW H×List MemPlace} (ht:P.underlying t=some (.slice e)) (hf:flat P 9 e=some ks) (hc:P.cellsOf e=ks.length) (hpos:0<ks.length)
  (hfu:DataW.trod enc P w base spare held fuel t cs=some x) :
  ∃ xp l c g,cs=[.slice xp l c]∧l≤c∧c≤maxLen∧Sl w ks.length xp l g∧(∀ i,i<l→Fits ks (g i))∧l+1≤uptoBulk x.1:=by
 rcases Deep.open_slice ht hfu with ⟨rfl,rfl⟩ | ⟨a,len,cap,m,n,D,Pl,rfl,hb,hl,hm,hmm,rfl,hx⟩
 ·exact ⟨none,0,0,fun _=>[],rfl,Nat.le_refl _,by simp [maxLen],fun i hi=>absurd hi (Nat.not_lt_zero _),fun i hi=>absurd hi (Nat.not_lt_zero _),by simp [uptoBulk]⟩
 ·have hlm:len≤m:=by rw [hmm];split <;> omega
  obtain ⟨g,hg⟩:=Deep.choose_lt (α:=List Value) (n:=len) (p:=fun i es=>w.cells? base (a.add (i*P.cellsOf e)) (P.cellsOf e)=some es∧Fits ks es) (fun i hi=>by
   obtain ⟨es,h1,h2⟩:=hx i (by omega)
   exact ⟨es,h1,fits_of_trod hf h2⟩)
  refine ⟨some a,len,cap,g,rfl,hl,hm,fun i hi=>?_,fun i hi=>(hg i hi).2,?_⟩
  ·obtain ⟨h1,h2⟩:=hg i hi
   obtain ⟨_,hlen,hcell⟩:=World.cells?_some h1
   rw [hc] at hlen hcell
   refine ⟨hlen,?_⟩
   have hsp:a.spot=none:=by
    obtain ⟨k1,k2⟩:=hg 0 (by omega)
    obtain ⟨_,klen,kcell⟩:=World.cells?_some k1
    rw [hc] at klen kcell
    have h0:=kcell 0 hpos
    rw [List.getElem?_eq_getElem (by omega)] at h0
    have e0:(a.add (0*ks.length)).add 0=a:=by simp [Addr.add]
    rw [e0] at h0
    unfold World.cell? at h0
    split at h0
    ·split at h0
     ·cases h0
     ·rename_i hs
      cases hsa:a.spot with
      | none=>rfl
      | some q=>exact absurd (by simp [hsa]) hs
    ·cases h0
   obtain ⟨b,o,sp⟩:=a
   simp only at hsp
   subst hsp
   refine ⟨b,o,rfl,fun j hj=>?_⟩
   have:=hcell j hj
   rw [Deep.add_add] at this
   rw [← this]
   congr 1
   unfold Addr.add
   split
   ·rename_i hz;rw [Nat.add_assoc,hz,Nat.add_zero]
   ·rw [Nat.add_assoc]
  ·have:=bulk_slice D len ((List.range (m-len)).map fun j=>D (len+j)) (fun _=>1) (fun i _=>bulk_pos _)
   rw [sum_ones] at this
   exact this
theorem sl_openB {t e:TypeId} {ks:List CK} {v:Value} {r:Reach} {b0:Nat} {dd:DataW H} {ps:List MemPlace} (ht:P.underlying t=some (.slice e)) (hf:flat P 9 e=some ks) (hc:P.cellsOf e=ks.length) (hpos:0<ks.length)
  (hval:Value.okWide P w r b0 t v) (hd:DataW.Trod enc P w base spare held t v dd ps) :
  ∃ xp l c g,v=.slice xp l c∧l≤c∧c≤maxLen∧Sl w ks.length xp l g∧(∀ i,i<l→Fits ks (g i))∧l+1≤uptoBulk dd:=by
 obtain ⟨xp,l,c,rfl⟩:=okWide_slice ht hval
 obtain ⟨fuel,hfu⟩:=hd
 obtain ⟨xp',l',c',g,h0,h1,h2,h3,h4,h5⟩:=sl_cells ht hf hc hpos hfu
 simp only [Value.cells,List.cons.injEq,Value.slice.injEq,and_true] at h0
 obtain ⟨rfl,rfl,rfl⟩:=h0
 exact ⟨_,_,_,g,rfl,h1,h2,h3,h4,h5⟩
theorem slL_of {α:Type} {L:Lay α} {n:Nat} {xp:Option Addr} {l:Nat} {g:Nat→List Value} (h:Sl w n xp l g) (hn:L.size=n) {f:Nat→α} (hg:∀ i,i<l→g i=L.row (f i)):SlL L w xp l ((List.range l).map f):=by
 subst hn
 refine ⟨by simp,fun i x hi=>?_⟩
 have hlt:i<l:=by have:=(List.getElem?_eq_some_iff.1 hi).1;simpa using this
 have:x=f i:=by simp [hlt] at hi;exact hi.symm
 subst this
 obtain ⟨_,b,o,hp,hc⟩:=h i hlt
 exact ⟨b,o,hp,fun j hj=>by rw [hc j hj,hg i hlt]⟩
theorem slL_ex {α:Type} [Inhabited α] {L:Lay α} {ks:List CK} {ok:α→Prop} {n:Nat} {xp:Option Addr} {l:Nat} {g:Nat→List Value} (h:Sl w n xp l g) (hn:L.size=n) (hf:∀ i,i<l→Fits ks (g i)) (ho:∀ cs,Fits ks cs→∃ x,cs=L.row x∧ok x) :
  ∃ xs:List α,SlL L w xp l xs∧∀ x∈xs,ok x:=by
 obtain ⟨f,hf2⟩:=Deep.choose_lt (α:=α) (n:=l) (p:=fun i o=>g i=L.row o∧ok o) fun i hi=>ho _ (hf i hi)
 refine ⟨_,slL_of h hn fun i hi=>(hf2 i hi).1,fun x hx=>?_⟩
 obtain ⟨i,hi,rfl⟩:=List.mem_map.1 hx
 exact (hf2 i (List.mem_range.1 hi)).2
theorem fits_nil {cs:List Value} (h:Fits [] cs):cs=[]:=by cases cs with | nil=>rfl | cons a l=>exact h.elim
theorem fits_cons {k:CK} {ks:List CK} {cs:List Value} (h:Fits (k::ks) cs):∃ a l,cs=a::l∧CK.ok k a∧Fits ks l:=by cases cs with | nil=>exact h.elim | cons a l=>exact ⟨a,l,rfl,h.1,h.2⟩
end
end Go.Proofs
namespace Go.Proofs
open Go Go.Ev Go.RowKit
set_option maxRecDepth 100000
instance:Inhabited Sec:=⟨sec []⟩
theorem by_of {cs:List Value} (h:Fits [.int .u8] cs):∃ y:Int,cs=byLay.row y∧(0≤y∧y≤255):=by
 obtain ⟨_,_,rfl,⟨a,rfl,a1,a2⟩,h1⟩:=fits_cons h
 cases fits_nil h1
 exact ⟨a,rfl,a1,a2⟩
theorem bytes_list {W:World} {xp:Option Addr} {l:Nat} {g:Nat→List Value} (h:Sl W 1 xp l g) (hf:∀ i,i<l→Fits [.int .u8] (g i)):∃ ys:List Int,SlL byLay W xp l ys∧By ys:=slL_ex h rfl hf fun cs hc=>by_of hc
end Go.Proofs
namespace Go.Proofs
open Go Go.Ev
set_option maxRecDepth 100000
section calls
variable {w:World} {R:Value→World→Prop}
end calls
structure Like (s1 s:AS):Prop where
 ua:s.ps.ua=s1.ps.ua
 ub:s.ps.ub=s1.ps.ub
 rest:s={ s1 with ds:=s.ds,ps:=s.ps }
theorem Like.ep {s1 s:AS} (h:Like s1 s) (f:Bool):epA s f=epA s1 f:=by rw [h.rest];cases f <;> rfl
theorem Like.upA {s1 s:AS} (h:Like s1 s) (f:Bool):upA s f=upA s1 f:=by rw [h.rest];cases f <;> rfl
theorem Like.lives {s1 s:AS} (h:Like s1 s) (f:Bool):livesA s f=livesA s1 f:=by rw [h.rest];cases f <;> rfl
theorem Like.split {s1 s:AS} (h:Like s1 s):s.split=s1.split:=by rw [h.rest]
theorem Like.d {s1 s:AS} (h:Like s1 s):s.d=s1.d:=by rw [h.rest]
theorem like_refl (s:AS):Like s s:=⟨rfl,rfl,rfl⟩
structure WrV (g:Geo) (s:SS) (now:Int→Sec) (lba:Int) (data:Sec) (ep n:Int) (xa xb:List Int) (r:Int×SS×List Int×List Int):Prop where
 ok:r.1=0
 good:GoodE g r.2.1 (upd now lba data) ep
 steps:s.pw.steps≤r.2.1.pw.steps∧r.2.1.pw.steps≤s.pw.steps+(5*n+3)
 dead:∀ i,deadS r.2.1 i=deadS s i
 keq:∀ i:Nat,(r.2.1.ds.getD i dsk0).key=(s.ds.getD i dsk0).key
 view:∀ i a,0≤i→0≤a→viewS r.2.1 i a=none→viewS s i a=none∨deadS s i=true
 a:(r.2.2.1.length:Int)≤(xa.length:Int)+370
 b:(r.2.2.2.length:Int)≤(xb.length:Int)+370
theorem writeM_v {g:Geo} {s:SS} {now:Int→Sec} {ep:Int} (h:GoodE g s now ep) (hst1:s.pw.steps<100000000000) {lba:Int} (h0:0≤lba) (h1:lba<(g.d-2)*g.c*g.s) (hl2:lostN (colsS g s (spotP g lba).1 (spotP g lba).2.2)≤2)
  {data:Sec} (hd:SecOk data) {v:Int} {fs:List Bool} (hfs:fs.length≤2) {sz:Int} {xa xb:List Int} (ha:400≤sz-(xa.length:Int)) (hb:400≤sz-(xb.length:Int)):WrV g s now lba data ep (fs.length:Int) xa xb (writeM sz g fs v lba data ep s xa xb):=by
 have hs:=h.ss
 have hi:=h.inv
 have hn:=h.nok
 have hl:=h.lit
 have hst0:=h.st0
 obtain ⟨pst,pco,pof⟩:=spotP_ok hs.geo h0 h1
 obtain ⟨hp2,hps⟩:=planS_seal hs hi hn hl.1 h0 h1 hd hl2
 have hp3:(planS g s lba data).1.length≤3:=planS_len
 generalize hW:writeM sz g fs v lba data ep s xa xb=W
 unfold writeM at hW
 rw [if_neg (by simp [hp2])] at hW
 simp only at hW
 have hin:∀ x∈(planS g s lba data).1,InR x:=fun x hx=>seal_inR hs.geo (hps x hx).1
 have hnb:(planS g s lba data).1.any badPut=false:=by
  rw [List.any_eq_false]
  intro x hx
  rw [badPut_in (hin x hx)];decide
 have hbg:beginM sz v (planS g s lba data).1 fs ⟨s.pw,xa,xb⟩=eachA sz fs ((planS g s lba data).1.map (recI v)++[recK 4 v]) ⟨s.pw,xa,xb⟩:=by
  unfold beginM
  rw [if_neg (by rw [hnb];decide)]
 rw [hbg] at hW
 obtain ⟨L,hL,hL4⟩:∃ L:Int,(((planS g s lba data).1.map (recI v)++[recK 4 v]).length:Int)=L∧(0≤L∧L≤4):=⟨_,rfl,by simp;omega⟩
 have hprod:0≤L*(fs.length:Int)∧L*(fs.length:Int)≤4*(fs.length:Int):=⟨Int.mul_nonneg hL4.1 (by omega),Int.mul_le_mul_of_nonneg_right hL4.2 (by omega)⟩
 obtain ⟨a1,a2,a3,a4,a5⟩:=eachA_lit (sz:=sz) hfs ((planS g s lba data).1.map (recI v)++[recK 4 v]) ⟨s.pw,xa,xb⟩ hl hst0 (by rw [hL];show s.pw.steps+_<_;omega) (by rw [hL];show _≤sz-(xa.length:Int);omega) (by rw [hL];show _≤sz-(xb.length:Int);omega)
 rw [hL] at a3 a4 a5
 generalize eachA sz fs ((planS g s lba data).1.map (recI v)++[recK 4 v]) ⟨s.pw,xa,xb⟩=B at *
 rw [if_neg (by simp [a1])] at hW
 have hs1:SsOk g ⟨s.ds,B.2.pw⟩:=⟨hs.geo,hs.num,hs.len,hs.ok⟩
 have hi1:Inv g ⟨s.ds,B.2.pw⟩ now:=hi.see hs.geo (fun _ _ _ _=>rfl)
 have hpp:planS g s lba data=planS g ⟨s.ds,B.2.pw⟩ lba data:=planS_pw hl.1 a2.1 lba data
 rw [hpp] at hW
 obtain ⟨_,s',happ,hw⟩:=hi1.write (ep:=ep) hs1 hn a2 h0 h1 hd h.key hl2
 have a3:B.2.pw.steps=s.pw.steps+L*(fs.length:Int):=a3
 have a4:(B.2.xa.length:Int)≤(xa.length:Int)+37*(L*(fs.length:Int)):=a4
 have a5:(B.2.xb.length:Int)≤(xb.length:Int)+37*(L*(fs.length:Int)):=a5
 obtain ⟨_,hps1⟩:=planS_seal hs1 hi1 hn a2.1 h0 h1 hd hl2
 have hp31:(planS g ⟨s.ds,B.2.pw⟩ lba data).1.length≤3:=planS_len
 obtain ⟨s2,c1,_,_,c2,_,_,_⟩:=applyS_ok (ep:=ep) hs1 a2 (by show 0≤B.2.pw.steps;omega) (by show B.2.pw.steps+_<_;omega) (fun x hx=>(hps1 x hx).1) h.key
 rw [happ] at c1
 have e2:s'=s2:=congrArg Prod.snd c1
 subst e2
 rw [happ] at hW
 rw [if_neg (by simp)] at hW
 have c2:s'.pw.steps=B.2.pw.steps+((planS g ⟨s.ds,B.2.pw⟩ lba data).1.length:Int):=c2
 obtain ⟨e1,e2,e3,e4,e5⟩:=eachM_lit (sz:=sz) (x:=recK 5 v) fs ⟨s'.pw,B.2.xa,B.2.xb⟩ hw.lit (by show 0≤s'.pw.steps;omega) (by show s'.pw.steps+_<_;omega) (by show _≤sz-(B.2.xa.length:Int);omega) (by show _≤sz-(B.2.xb.length:Int);omega)
 generalize eachM sz (recK 5 v) fs ⟨s'.pw,B.2.xa,B.2.xb⟩=E at *
 subst hW
 have e3:E.2.pw.steps=s'.pw.steps+(fs.length:Int):=e3
 have e4:(E.2.xa.length:Int)≤(B.2.xa.length:Int)+37*(fs.length:Int):=e4
 have e5:(E.2.xb.length:Int)≤(B.2.xb.length:Int)+37*(fs.length:Int):=e5
 refine ⟨e1,⟨⟨hw.ss.geo,hw.ss.num,hw.ss.len,hw.ss.ok⟩,e2,fun i=>?_,hw.inv.see hs.geo (fun _ _ _ _=>rfl),upd_ok hn hd lba,by show 0≤E.2.pw.steps;omega⟩,⟨by show s.pw.steps≤E.2.pw.steps;omega,by show E.2.pw.steps≤_;omega⟩,fun i=>hw.dead i,fun i=>hw.key i,fun i a hi' ha'=>hw.view i a hi' ha',by show (E.2.xa.length:Int)≤_;omega,by show (E.2.xb.length:Int)≤_;omega⟩
 show (s'.ds.getD i dsk0).key≤ep
 rw [hw.key]
 exact h.key i
structure CostLe (s s':AS) (n m:Int):Prop where
 steps:s.ps.pw.steps≤s'.ps.pw.steps∧s'.ps.pw.steps≤s.ps.pw.steps+n
 a:(s'.ps.xa.length:Int)≤(s.ps.xa.length:Int)+m
 b:(s'.ps.xb.length:Int)≤(s.ps.xb.length:Int)+m
 last:s'.ps.last=s.ps.last+1
 up:s'.ps.ua=s.ps.ua∧s'.ps.ub=s.ps.ub
structure Seen (s s':SS):Prop where
 dead:∀ i,deadS s' i=deadS s i
 keq:∀ i:Nat,(s'.ds.getD i dsk0).key=(s.ds.getD i dsk0).key
 view:∀ i a,0≤i→0≤a→viewS s' i a=none→viewS s i a=none
theorem Qv.lost {q:AB} {s:AS} {fin:Int→Sec} {ep x y:Int} (h:Qv q s fin ep x y) {st off:Int} (hst:0≤st∧st<q.g.s) (hof:0≤off∧off<q.g.c):lostN (colsS q.g s.ss st off)≤2:=by
 obtain ⟨now,hg,_⟩:=h.good
 exact h.v2.lost hg.ss.geo _ _ hst hof
theorem Qv.out {q:AB} {s:AS} {fin:Int→Sec} {ep x y:Int} {f:Bool} (h:Qv q s fin ep x y) (hep:epA s f=ep) {p:Int×Ent} (hp:p∈s.ps.es) (hst:s.ps.pw.steps<10000000000) (hla:s.ps.last<1000000000000) (ha:500≤q.pb.sz-(s.ps.xa.length:Int)) (hb:500≤q.pb.sz-(s.ps.xb.length:Int)) :
  (outA q s f p).1=0∧Qv q (outA q s f p).2 fin ep x y∧CostLe s (outA q s f p).2 (6*((upS s.ps f).length:Int)+3) 444∧(outA q s f p).2.ps.es=del s.ps.es p.1∧Seen s.ss (outA q s f p).2.ss ∧
   (outA q s f p).2={ s with ds:=(outA q s f p).2.ds,ps:=(outA q s f p).2.ps }:=by
 have hm:=mem_look h.nd hp
 obtain ⟨⟨p0,p1⟩,p2,p3,p4⟩:=h.es p.1 p.2 hm
 have hl0:=h.last
 obtain ⟨now,hg,hf⟩:=h.good
 have hs0:0≤s.ps.pw.steps:=hg.st0
 have hv:IntKind.wrap .u64 (s.ps.last+1)=s.ps.last+1:=wrapU64 (by omega) (by omega)
 unfold outA
 rw [hv]
 have hd:SecOk p.2.1:=by rw [p2];exact h.fok _
 obtain ⟨pst,_,pof⟩:=spotP_ok hg.ss.geo p0 p1
 have hW:=writeM_v (s:=s.ss) (v:=s.ps.last+1) (fs:=upS s.ps f) (sz:=q.pb.sz) (xa:=s.ps.xa) (xb:=s.ps.xb) hg (by show s.ps.pw.steps<_;omega) p0 p1 (h.lost pst pof) hd (len_upS _ _) (by omega) (by omega)
 have hlu:=len_upS s.ps f
 have hlu2:(upS s.ps false).length=(upS s.ps f).length:=by
  unfold upS
  cases f <;> cases s.ps.ua <;> cases s.ps.ub <;> rfl
 unfold outB
 have hu:upS { s.ps with last:=s.ps.last+1 } f=upS s.ps f:=rfl
 have hss:(⟨s.ds,s.ps.pw⟩:SS)=s.ss:=rfl
 simp only [hu,hss,hep]
 generalize writeM q.pb.sz q.g (upS s.ps f) (s.ps.last+1) p.1 p.2.1 ep s.ss s.ps.xa s.ps.xb=r at *
 have w1:=hW.steps
 have w1:s.ps.pw.steps≤r.2.1.pw.steps∧r.2.1.pw.steps≤s.ps.pw.steps+(5*((upS s.ps f).length:Int)+3):=w1
 have wa:=hW.a
 have wb:=hW.b
 rw [if_neg (by simp [hW.ok])]
 have hgv:getV s.ps.es p.1=(p.2.1,p.2.2,0):=by unfold getV;rw [hm]
 have hcl:cleanE s.ps.es p.1 p.2.2=0:=by unfold cleanE;rw [hm];simp only;rw [if_neg (by omega)]
 have hu2:upS { s.ps with last:=s.ps.last+1,pw:=r.2.1.pw,xa:=r.2.2.1,xb:=r.2.2.2 } false=upS s.ps false:=rfl
 obtain ⟨m1,m2,m3,m4,m5⟩:=eachM_lit (sz:=q.pb.sz) (x:=⟨2,p.2.2,p.1,sec []⟩) (upS s.ps false) ⟨r.2.1.pw,r.2.2.1,r.2.2.2⟩ hW.good.lit (by show 0≤r.2.1.pw.steps;omega) (by show r.2.1.pw.steps+_<_;omega) (by show _≤q.pb.sz-(r.2.2.1.length:Int);omega) (by show _≤q.pb.sz-(r.2.2.2.length:Int);omega)
 have hfl:flushP q.pb.sz { s.ps with last:=s.ps.last+1,pw:=r.2.1.pw,xa:=r.2.2.1,xb:=r.2.2.2 } p.1 p.2.2=(0,{ s.ps with last:=s.ps.last+1,es:=del s.ps.es p.1,pw:=(eachM q.pb.sz ⟨2,p.2.2,p.1,sec []⟩ (upS s.ps false) ⟨r.2.1.pw,r.2.2.1,r.2.2.2⟩).2.pw,xa:=(eachM q.pb.sz ⟨2,p.2.2,p.1,sec []⟩ (upS s.ps false) ⟨r.2.1.pw,r.2.2.1,r.2.2.2⟩).2.xa,xb:=(eachM q.pb.sz ⟨2,p.2.2,p.1,sec []⟩ (upS s.ps false) ⟨r.2.1.pw,r.2.2.1,r.2.2.2⟩).2.xb }):=by
  unfold flushP
  simp only [hgv]
  rw [if_neg (by decide),if_neg (by omega)]
  unfold eachP
  rw [hu2,eachS_eq]
  simp only [m1,hcl]
  rfl
 rw [hfl]
 generalize eachM q.pb.sz ⟨2,p.2.2,p.1,sec []⟩ (upS s.ps false) ⟨r.2.1.pw,r.2.2.1,r.2.2.2⟩=M at *
 have m3:M.2.pw.steps=r.2.1.pw.steps+((upS s.ps false).length:Int):=m3
 have m4:(M.2.xa.length:Int)≤(r.2.2.1.length:Int)+37*((upS s.ps false).length:Int):=m4
 have m5:(M.2.xb.length:Int)≤(r.2.2.2.length:Int)+37*((upS s.ps false).length:Int):=m5
 rw [hlu2] at m3 m4 m5
 have hseen:Seen s.ss ⟨r.2.1.ds,M.2.pw⟩:=⟨fun i=>hW.dead i,fun i=>hW.keq i,fun i a hi ha hv=>by
  rcases hW.view i a hi ha hv with hh | hh
  ·exact hh
  ·exact view_dead hh⟩
 refine ⟨rfl,⟨⟨upd now p.1 p.2.1,hW.good.pow m2 (by show 0≤M.2.pw.steps;omega),fun l hl=>?_⟩,fun j a hj ha hv=>h.v2 j a hj ha (hseen.view j a hj.1 ha.1 hv),fun l e hl=>?_,keys_nodup_del h.nd _,by show 0≤s.ps.last+1;omega,h.fok⟩,⟨⟨by show s.ps.pw.steps≤M.2.pw.steps;omega,by show M.2.pw.steps≤_;omega⟩,by show (M.2.xa.length:Int)≤_;omega,by show (M.2.xb.length:Int)≤_;omega,rfl,rfl,rfl⟩,rfl,hseen,rfl⟩
 ·have hl:mlook (del s.ps.es p.1) l=none:=hl
  rw [look_del] at hl
  unfold upd
  by_cases he:l=p.1
  ·rw [if_pos he,p2,he]
  ·rw [if_neg he] at hl ⊢
   exact hf l hl
 ·have hl:mlook (del s.ps.es p.1) l=some e:=hl
  rw [look_del] at hl
  split at hl
  ·cases hl
  ·obtain ⟨e1,e2,e3,e4⟩:=h.es l e hl
   exact ⟨e1,e2,e3,by show e.2≤s.ps.last+1;omega⟩
theorem V2.all {g:Geo} {s:SS} (h:∀ j a,(0≤j∧j<g.d)→(0≤a∧a<g.c*g.s)→viewS s j a≠none) (x y:Int):V2 g s x y:=fun j a hj ha hv=>absurd hv (h j a hj ha)
theorem newS_v2 {g:Geo} (hg:GeoOk g) (x y:Int):V2 g (newS g pw0) x y:=V2.all (fun j a hj ha=>by rw [newS_view hg hj ha];simp) x y
theorem qv_new {q:AB} {g:Geo} (hg:GeoOk g) (hqg:q.g=g) (x y:Int):Qv q (arS0 g) now0 0 x y:=by
 refine ⟨⟨now0,by rw [hqg];exact (newS_good hg).toE,fun _ _=>rfl⟩,by rw [hqg];exact newS_v2 hg x y,fun l e h=>absurd (show (none:Option Ent)=some e from h) (by simp),List.nodup_nil,(show (0:Int)≤0 by decide),now0_ok⟩
theorem Qv.ready {q:AB} {s:AS} {fin:Int→Sec} {ep x y:Int} {f:Bool} (h:Qv q s fin ep x y) (hl:livesA s f=true) (he:ep≤epA s f) (h0:0≤ep):readyA s f=true:=by
 obtain ⟨now,hg,_⟩:=h.good
 have:=keyS_le (s:=s.ss) h0 hg.key
 have hon:s.ps.pw.on=true:=hg.lit.1
 unfold readyA
 rw [hon,hl,decide_eq_true (by omega)]
 rfl
section rb
variable {q:AB} {k ph:Nat} {left S A L:Int} {fin:Int→Sec} {s:AS}
end rb
end Go.Proofs
namespace Go.Proofs
open Go Go.Ev Go.RowKit
set_option maxRecDepth 100000
def firstA (s:AS):Option Bool:=if readyA s false=true then some false else if readyA s true=true then some true else none
def firstN (o:Option Bool):Int:=match o with
 | some f=>sideN f
 | none=>0
section plain
variable {w w':World} {q:AB} {lk:Int} {s:AS}
end plain
section calls
variable {w:World} {q:AB} {lk:Int} {s:AS} {R:Value→World→Prop}
theorem ar_first (h:ArAt w q lk s) (hK:∀ w',Keep (fun _=>False) w w'→R (.tuple #[.int .i64 (firstN (firstA s)),.bool (firstA s).isSome]) w'):zB Tryz.prog 161 #[.pointer (some ⟨q.a,0,none⟩)] w R:=by
 apply C_array_Array_first
 unfold F_array_Array_first
 unfold firstA at hK
 refine LoopC_of (σ:=Int×Unit) (fun st w'=>Keep (fun _=>False) w w'∧(st.1=0∨(st.1=1∧readyA s false=false)∨(st.1=2∧readyA s false=false∧readyA s true=false))) (fun st _=>(2-st.1).toNat) ⟨Keep.refl _ _,Or.inl rfl⟩ ?_
 rintro _ ⟨i,u⟩ w1 ⟨k1,hi⟩
 simp only at hi ⊢
 have h1:=h.keep0 k1
 rcases hi with hi | ⟨hi,r0⟩ | ⟨hi,r0,r1⟩
 ·subst hi
  refine (Cb_true (q:=_)).2 ?_
  refine ar_ready h1 false fun w2 k2=>OpB_bool.2 ?_
  cases hr:readyA s false with
  | true =>
   rw [hr,if_pos rfl] at hK
   exact (Cb_true (q:=_)).2 (Ret_nil.2 (hK w2 (k1.trans k2)))
  | false=>exact (Cb_false (p:=_)).2 ⟨_,by decide,⟨k1.trans k2,Or.inr (Or.inl ⟨by decide,rfl⟩)⟩,rfl⟩
 ·subst hi
  refine (Cb_true (q:=_)).2 ?_
  refine ar_ready h1 true fun w2 k2=>OpB_bool.2 ?_
  rw [r0,if_neg (by decide)] at hK
  cases hr:readyA s true with
  | true =>
   rw [hr,if_pos rfl] at hK
   exact (Cb_true (q:=_)).2 (Ret_nil.2 (hK w2 (k1.trans k2)))
  | false=>exact (Cb_false (p:=_)).2 ⟨_,by decide,⟨k1.trans k2,Or.inr (Or.inr ⟨by decide,r0,rfl⟩)⟩,rfl⟩
 ·subst hi
  refine (Cb_false (p:=_)).2 ?_
  rw [r0,r1,if_neg (by decide),if_neg (by decide)] at hK
  exact Ret_nil.2 (hK w1 k1)
theorem ar_begin (h:ArAt w q lk s) (hK:∀ w',Keep (fun _=>False) w w'→R (if s.ps.pw.on=false then .tuple #[.int .i64 0,.int .i64 4] else match firstA s with
      | some f=>.tuple #[.int .i64 (sideN f),.int .i64 0]
      | none=>.tuple #[.int .i64 0,.int .i64 13]) w'):zB Tryz.prog 85 #[.pointer (some ⟨q.a,0,none⟩)] w R:=by
 apply C_array_Array_begin
 unfold F_array_Array_begin
 refine ar_on h (ma_On h.pair.main (OpB_bool.2 ?_))
 cases hon:s.ps.pw.on with
 | false =>
  rw [hon,if_pos rfl] at hK
  exact (Cb_true (q:=_)).2 (Ret_nil.2 (hK w (Keep.refl _ _)))
 | true =>
  rw [hon,if_neg (by decide)] at hK
  refine (Cb_false (p:=_)).2 ?_
  refine ar_first h fun w1 k1=>T2_mk.2 (zA.2 (OpB_bool.2 ?_))
  cases hf:firstA s with
  | some f =>
   rw [hf] at hK
   exact (Cb_false (p:=_)).2 (Ret_nil.2 (hK w1 k1))
  | none =>
   rw [hf] at hK
   exact (Cb_true (q:=_)).2 (Ret_nil.2 (hK w1 k1))
end calls
theorem zc_recR:zc Tryz.prog 246=recV ⟨0,0,0,sec []⟩:=by kernel_rfl
def esOf (D:List Rec):List (Int×Ent):=D.map fun r=>(r.lba,(r.data,r.ver))
theorem esOf_keys (D:List Rec):(esOf D).map (·.1)=D.map (·.lba):=by unfold esOf;rw [List.map_map];rfl
theorem esOf_succ (D:List Rec) (r:Rec):esOf (D++[r])=esOf D++[(r.lba,(r.data,r.ver))]:=by unfold esOf;simp
theorem look_none_of {α:Type} {es:List (Int×α)} {x:Int} (h:x ∉ es.map (·.1)):mlook es x=none:=by
 unfold mlook
 rw [Option.map_eq_none_iff,List.find?_eq_none]
 intro p hp he
 exact h (List.mem_map.2 ⟨p,hp,by simpa using he⟩)
section calls
variable {w:World} {R:Value→World→Prop}
theorem pr_Resume {base m a b:Nat} {room sz:Int} {pw:Pow} {xa xb:List Int} (hm:MaAt w m pw) (hr:∃ pa la ca pb lb cb,RaAt w base m a sz pa la ca xa∧RaAt w base m b sz pb lb cb xb∧∀ k,pa=some ⟨k,0,none⟩→¬ pb=some ⟨k,0,none⟩)
  (hne:a≠b) (hfit:(xa.length:Int)≤sz∧(xb.length:Int)≤sz) (hform:37≤sz∧sz≤65536) (h1:1≤room) (h2:room≤64) (hbase:base≤w.heap.size)
  {epoch last:Int} {dp:Option Addr} {dl dc:Nat} {D:List Rec} (hD:SlL rLay w dp dl D) (hk:∀ r∈D,r.kind=1∧(0≤r.lba∧r.lba≤2147483647)∧r.ver≤last) (hnd:(D.map (·.lba)).Nodup) (hlen:(dl:Int)≤room)
  (hK:∀ p c mp w',PairAt w' ⟨p,c,mp,m,a,b,base,room,sz⟩ ⟨esOf D,last,epoch,true,true,pw,xa,xb⟩→Keep (fun _=>False) w w'→w.heap.size≤p→w.heap.size≤mp→R (.tuple #[.pointer (some ⟨p,0,none⟩),.int .i64 0]) w') :
  zB Tryz.prog 139 #[.pointer (some ⟨a,0,none⟩),.pointer (some ⟨b,0,none⟩),.int .i64 room,.int .u32 epoch,.int .u64 last,.slice dp dl dc] w R:=by
 apply C_mirror_Resume
 unfold F_mirror_Resume
 obtain rfl:dl=D.length:=hD.1
 refine cache_New h1 h2 fun c mp w1 hc k1 hcb hmb=>?_
 refine T2_mk.2 ?_
 refine Or.inr ⟨c,0,rfl,?_⟩
 refine zA.2 ⟨rfl,rfl,?_⟩
 obtain ⟨pa,la,ca,pb,lb,cb,ha,hb,hpp⟩:=hr
 refine EqB_ptr hne (k1.has ha.cells (by simp)) (k1.has hb.cells (by simp)) ?_
 refine ⟨rfl,rfl,?_⟩
 refine (Cb_false (p:=_)).2 ?_
 refine ⟨_,_,run_makeMap,?_⟩
 refine OpM_map.2 ?_
 have k2:Keep (fun _=>False) w1 (w1.alloc (.map #[] 0)):=Keep.new _ _ _
 have hm2:MapAt .i64 (w1.alloc (.map #[] 0)) w1.heap.size []:=⟨_,_,Has.new _ _,MapOk.nil _⟩
 generalize w1.alloc (.map #[] 0)=w2 at *
 have k02:=k1.trans k2
 have hc2:=hc.keep k2 (by simp) (by simp)
 have hD2:=hD.keepB k02 (by simp)
 have hml:=hm2.lt
 have hcl:=hc.lt
 refine LoopC_of (σ:=Int×Unit) (fun st w'=>∃ j:Nat,st.1=(j:Int)∧j≤D.length∧MapAt .i64 w' w1.heap.size (goneE ((D.take j).map (·.lba)))∧Keep (fun k=>k=w1.heap.size) w2 w') (fun st _=>((D.length:Int)-st.1).toNat) ⟨0,rfl,by omega,hm2,Keep.refl _ _⟩ ?_
 rintro _ ⟨i,u⟩ w3 ⟨j,hi,hj,hm3,k3⟩
 simp only at hi ⊢
 subst hi
 have z2:=k2.size
 have k03:Keep (fun _=>False) w w3:=k02.trans' k3 fun i hi e=>by have:=k1.size;omega
 have lowk:∀ {w':World} {S:Nat→Prop},Keep S w2 w'→(∀ i,S i→i=w1.heap.size)→Keep (fun _=>False) w w':=fun k h=>k02.trans' k fun i hi e=>by have:=h i e;have:=k1.size;omega
 refine Cb_of (fun hcc=>?_) (fun hcc=>?_)
 ·have hj:j<D.length:=by simp at hcc;omega
  obtain ⟨r,hr⟩:∃ r,D[j]? = some r:=⟨_,List.getElem?_eq_getElem hj⟩
  obtain ⟨r1,r2,r3⟩:=hk r (List.mem_of_getElem? hr)
  refine (hD.keepB k03 (by simp)).ldA (x:=r) rfl (by omega) (by rw [Int.toNat_natCast];exact hr) ?_
  rw [rc_row]
  refine copy_of (by rw [zc_recR];rfl) rfl (one_recV _) fun w4 hb4 k4 z4=>?_
  have hm4:=hm3.keep k4 (by simp)
  refine LdV_has (v:=.int .i64 r.lba) hb4 rfl (zA.2 ?_)
  have hnot:r.lba ∉ (D.take j).map (·.lba):=fun hmem=>by
   obtain ⟨r',hr',he⟩:=List.mem_map.1 hmem
   obtain ⟨i',hi',hg'⟩:=mem_take_at hr'
   have hi2:(D.map (·.lba))[i']? = some r.lba:=by rw [List.getElem?_map,hg',← he];rfl
   have hj2:(D.map (·.lba))[j]? = some r.lba:=by rw [List.getElem?_map,hr];rfl
   have:=(List.getElem?_inj (by rw [List.length_map];omega) hnd).1 (hi2.trans hj2.symm)
   omega
  have hlk:=goneE_look ((D.take j).map (·.lba)) r.lba
  rw [if_neg hnot] at hlk
  refine DoQ_of (v:=.tuple #[.agg #[],.bool false]) (fun d=>?_) (T2_mk.2 (OpA_agg.2 ⟨rfl,OpB_bool.2 ?_⟩))
  ·have:=run_lookup (P:=Tryz.prog) (t:=316) (kt:=3) (et:=130) (z:=.agg #[]) (by kernel_rfl) (by kernel_rfl) (fun w=>run_zeroValue (i:=(Tryz.prog.info? 130).get (by kernel_rfl)) (by kernel_rfl) (by kernel_rfl)) (hm4.dr d) r.lba true
   rw [this,hlk];rfl
  refine copy_of (by kernel_rfl) rfl (by simp) fun w5 hb5 k5 z5=>?_
  have hb5':=k5.has hb4 (by simp)
  have hm5:=hm4.keep k5 (by simp)
  have k35:=k4.trans k5
  refine LdV_has (v:=.int .i64 r.kind) hb5' rfl (zA.2 ?_)
  rw [r1]
  refine (Cb_false (p:=_)).2 ?_
  refine LdV_has (v:=.int .i64 r.lba) hb5' rfl (zA.2 ?_)
  rw [decide_eq_false (show ¬ r.lba<0 by omega)]
  refine (Cb_false (p:=_)).2 (LdV_has (v:=.int .i64 r.lba) hb5' rfl (zA.2 ?_))
  rw [decide_eq_false (show ¬ r.lba>2147483647 by omega)]
  refine (Cb_false (p:=_)).2 (LdV_has (v:=.int .u64 r.ver) hb5' rfl (zA.2 ⟨by trivial,?_⟩))
  rw [decide_eq_false (show ¬ r.ver>last by omega)]
  refine (Cb_false (p:=_)).2 (LdV_has (v:=.int .i64 r.lba) hb5' rfl (zA.2 ?_))
  refine DoQ_of (v:=.agg #[]) (fun _=>run_build _ _ _ _ (by kernel_rfl)) (OpA_agg.2 ⟨rfl,?_⟩)
  obtain ⟨arr,clk,hru,ho⟩:=run_mapUpdate (P:=Tryz.prog) (t:=316) (kt:=3) (et:=130) (by kernel_rfl) (by kernel_rfl) hm5 r.lba (.agg #[])
  refine ⟨_,hru,?_⟩
  have ek:IntKind.wrap .i64 ((j:Int)+1)=((j+1:Nat):Int):=by
   have:(D.length:Int)≤64:=by omega
   rw [wrapI (by omega) (by omega)];omega
  refine ⟨_,by show ((D.length:Int)-IntKind.wrap .i64 ((j:Int)+1)).toNat<((D.length:Int)-(j:Int)).toNat;rw [ek];omega,⟨j+1,ek,by omega,?_,(k3.trans (k35.mono fun _ h=>h.elim)).trans (Keep.one _ _ _)⟩,rfl⟩
  rw [List.take_add_one,hr]
  show MapAt .i64 _ _ (goneE ((D.take j++[r]).map (·.lba)))
  rw [List.map_append]
  show MapAt .i64 _ _ (goneE ((D.take j).map (·.lba)++[r.lba]))
  rw [goneE_succ]
  exact ⟨_,_,(by obtain ⟨a,c,hb,_⟩:=hm5;exact hb.upd_same _),ho⟩
 have hc3:CacheAt w3 c mp room []:=hc2.keep k3 (by omega) (by omega)
 rw [decide_eq_false (show ¬ ((D.length:Nat):Int)>room by omega)]
 refine (Cb_false (p:=_)).2 ?_
 clear hm3 hcc hj
 refine LoopC_of (σ:=Int×Unit) (fun st w'=>∃ j:Nat,st.1=(j:Int)∧j≤D.length∧CacheAt w' c mp room (esOf (D.take j))∧Keep (fun k=>k=mp) w3 w') (fun st _=>((D.length:Int)-st.1).toNat) ⟨0,rfl,by omega,hc3,Keep.refl _ _⟩ ?_
 rintro _ ⟨i,u⟩ w4 ⟨j,hi,hj,hc4,k4⟩
 simp only at hi ⊢
 subst hi
 have k04:Keep (fun _=>False) w w4:=k03.trans' k4 fun i hi e=>by omega
 refine Cb_of (fun hcc=>?_) (fun hcc=>?_)
 ·have hj:j<D.length:=by simp at hcc;omega
  obtain ⟨r,hr⟩:∃ r,D[j]? = some r:=⟨_,List.getElem?_eq_getElem hj⟩
  obtain ⟨r1,r2,r3⟩:=hk r (List.mem_of_getElem? hr)
  refine (hD.keepB k04 (by simp)).ldA (x:=r) rfl (by omega) (by rw [Int.toNat_natCast];exact hr) ?_
  rw [rc_row]
  refine copy_of (by rw [zc_recR];rfl) rfl (one_recV _) fun w5 hb5 k5 z5=>?_
  refine LdV_has (v:=.int .i64 r.lba) hb5 rfl (zA.2 ?_)
  refine LdA_has (cs:=secV r.data) hb5 (by show 3+16≤19;decide) (by
   apply Array.ext'
   simp only [Array.toList_extract,List.extract_eq_take_drop]
   rfl) ?_
  refine LdV_has (v:=.int .u64 r.ver) hb5 rfl (zA.2 ?_)
  have hnot:r.lba ∉ (D.take j).map (·.lba):=fun hmem=>by
   obtain ⟨r',hr',he⟩:=List.mem_map.1 hmem
   obtain ⟨i',hi',hg'⟩:=mem_take_at hr'
   have hi2:(D.map (·.lba))[i']? = some r.lba:=by rw [List.getElem?_map,hg',← he];rfl
   have hj2:(D.map (·.lba))[j]? = some r.lba:=by rw [List.getElem?_map,hr];rfl
   have:=(List.getElem?_inj (by rw [List.length_map];omega) hnd).1 (hi2.trans hj2.symm)
   omega
  have hmn:mlook (esOf (D.take j)) r.lba=none:=look_none_of (by rw [esOf_keys];exact hnot)
  have hpe:putE room (esOf (D.take j)) r.lba r.ver=0:=by
   unfold putE
   rw [if_neg (by omega),hmn]
   simp only
   rw [if_neg]
   unfold esOf
   rw [List.length_map,List.length_take]
   omega
  refine cache_Put (hc4.keep k5 (by simp) (by simp)) fun w6 k6 hc6=>zA.2 ?_
  rw [hpe,if_pos rfl] at hc6
  have ek:IntKind.wrap .i64 ((j:Int)+1)=((j+1:Nat):Int):=by
   have:(D.length:Int)≤64:=by omega
   rw [wrapI (by omega) (by omega)];omega
  refine ⟨_,by show ((D.length:Int)-IntKind.wrap .i64 ((j:Int)+1)).toNat<((D.length:Int)-(j:Int)).toNat;rw [ek];omega,⟨j+1,ek,by omega,?_,(k4.trans (k5.mono fun _ h=>h.elim)).trans k6⟩,rfl⟩
  rw [List.take_add_one,hr]
  show CacheAt w6 c mp room (esOf (D.take j++[r]))
  rw [esOf_succ]
  have:ins (esOf (D.take j)) r.lba (r.data,r.ver)=esOf (D.take j)++[(r.lba,(r.data,r.ver))]:=by
   unfold ins
   rw [if_neg]
   intro hh
   obtain ⟨p,hp,he⟩:=List.any_eq_true.1 hh
   have:r.lba∈(esOf (D.take j)).map (·.1):=List.mem_map.2 ⟨p,hp,by simpa using he⟩
   rw [esOf_keys] at this
   exact hnot this
  rw [← this]
  exact hc6
 have hj:D.length=j:=by simp at hcc;omega
 rw [← hj,List.take_length] at hc4
 refine DoQ_of (v:=.agg #[.pointer (some ⟨a,0,none⟩),.pointer (some ⟨b,0,none⟩)]) (fun d=>run_build _ _ _ _ (by kernel_rfl)) ?_
 refine OpA_agg.2 ⟨rfl,?_⟩
 refine DoQ_of (v:=.agg #[.bool true,.bool true]) (fun d=>run_build _ _ _ _ (by kernel_rfl)) ?_
 refine OpA_agg.2 ⟨rfl,?_⟩
 refine DoQ_of (v:=.agg (pairC ⟨0,c,mp,m,a,b,base,room,sz⟩ ⟨esOf D,last,epoch,true,true,pw,xa,xb⟩)) (fun d=>run_build _ _ _ _ (by kernel_rfl)) ?_
 refine OpA_agg.2 ⟨rfl,?_⟩
 refine alc_fresh fun w5 hb5 k5 z5=>?_
 refine Ret_nil.2 ?_
 have k05:=k04.trans k5
 refine hK _ c mp w5 ⟨hb5,hc4.keep k5 (by simp) (by simp),k05.has hm (by simp),⟨pa,la,ca,pb,lb,cb,ha.keep k05 (by simp) (by simp),hb.keep k05 (by simp) (by simp),hpp⟩,hne,hfit,hform,?_⟩ k05 ?_ hmb
 ·show base≤w4.heap.size
  have:=k04.size
  omega
 ·exact k04.size
end calls
end Go.Proofs
namespace Go.Proofs
open Go.Ev
set_option maxRecDepth 100000
def F_nvram_Ram_Trim (r:Nat) (w:World) (R:Value→World→Prop):Prop :=
 LdV r 2 (At w) fun v=>OpS v fun p l c=>zB Tryz.prog 136 #[.slice p l c] w fun v1 w=>T2 v1 fun v2 v3=>OpS v2 fun p1 l1 c1=>OpI .i64 v3 fun n=>LdV r 2 (At w)
 fun v4=>OpS v4 fun p2 l2 c2=>Slc l2 c2 none (some n) none fun l3 h m=>StV r 2 (.slice (slcP 1 l3 m p2) (h-l3) (m-l3)) w fun w=>Ret [] (R (.tuple #[]) w)
theorem C_nvram_Ram_Trim {r:Nat} {w:World} {R:Value→World→Prop} (h:F_nvram_Ram_Trim r w R):zB Tryz.prog 89 #[.pointer (some ⟨r,0,none⟩)] w R:=by
 exact zE (args:=[.pointer (some ⟨r,0,none⟩)]) (mkAnn [] [] [] [] []) zD Tryz.func89 rfl rfl (by kernel_rfl) h
end Go.Proofs
namespace Go.Proofs
open Go Go.Ev Go.RowKit
set_option maxRecDepth 100000
theorem rows_takeB (xs:List Int) (n:Nat):byLay.rows (xs.take n)=(byLay.rows xs).take n:=by
 induction xs generalizing n with
 | nil=>simp [Lay.rows]
 | cons x xs ih =>
  cases n with
  | zero=>simp [Lay.rows]
  | succ n =>
   have e:∀ ys:List Int,byLay.rows (x::ys)=.int .u8 x::byLay.rows ys:=fun _=>rfl
   rw [List.take_succ_cons,e,e,List.take_succ_cons,ih]
theorem OwnL.takeB {w:World} {base:Nat} {e:TypeId} {p:Option Addr} {l c:Nat} {xs:List Int} (h:OwnL byLay w base e p l c xs) {n:Nat} (hn:n≤l):OwnL byLay w base e p n c (xs.take n)∧slcP 1 0 c p=p:=by
 rcases Own.cases h with ⟨rfl,rfl,rfl,h0⟩ | ⟨b,cur,rfl,hb',hg,hle,hm,hs,ht⟩
 ·have:n=0:=by omega
  subst this
  refine ⟨OwnL.nil,?_⟩
  unfold slcP
  rw [if_pos rfl]
 ·have hs1:byLay.size=1:=rfl
  refine ⟨Own.mk hb' hg (by omega) hm hs ?_,?_⟩
  ·rw [rows_takeB,← ht,List.take_take,hs1,Nat.mul_one,Nat.mul_one,Nat.min_eq_left hn]
  ·unfold slcP
   split
   ·rfl
   ·rfl
section calls
variable {w:World} {R:Value→World→Prop}
theorem ra_Trim {base m r l c:Nat} {size:Int} {p:Option Addr} {bs:List Int} {L:List Rec} (h:RaAt w base m r size p l c bs) (hk:KeptB bs L) (hl:l≤1000000)
  (hK:∀ w' l',RaAt w' base m r size p l' c (L.flatMap packB)→Keep (fun k=>k=r) w w'→R (.tuple #[]) w'):zB Tryz.prog 89 #[.pointer (some ⟨r,0,none⟩)] w R:=by
 apply C_nvram_Ram_Trim
 unfold F_nvram_Ram_Trim
 refine LdV_has (v:=.slice p l c) h.cells rfl (zC.2 ?_)
 have hlc:=h.row.cap.1
 have hlen:=h.row.length
 refine c_Scan h.row.sl hl hlc hk.byb fun p' c' w1 o k1=>T2_mk.2 (zC.2 (zA.2 ?_))
 rw [hk.scan]
 obtain ⟨t,ht1,ht2,ht3⟩:=hk.2
 have hfl:(L.flatMap packB).length=37*L.length:=by rw [recs_len]
 have hbl:bs.length=37*L.length+t.length:=by rw [ht3,List.length_append,hfl]
 have h1:=k1.has h.cells (by simp)
 have hr1:OwnL byLay w1 base 5 p l c bs:=h.row.keep k1 (by simp)
 refine LdV_has (v:=.slice p l c) h1 rfl (zC.2 ?_)
 rw [show (37*(L.length:Int))=((37*L.length:Nat):Int) by omega]
 obtain ⟨q1,q2⟩:=OwnL.takeB hr1 (n:=37*L.length) (by omega)
 refine Slc_hiN (hi:=37*L.length) (by omega) ?_
 rw [q2,Nat.sub_zero,Nat.sub_zero]
 refine StV_of h1 (by show 2<3;decide) rfl (Ret_nil.2 ?_)
 have etk:bs.take (37*L.length)=L.flatMap packB:=by rw [ht3,List.take_left' hfl]
 rw [etk] at q1
 have hset:(raC m size p l c).setIfInBounds 2 (.slice p (37*L.length) c)=raC m size p (37*L.length) c:=rfl
 rw [hset]
 have k2:=Keep.one w1 r (.cells (raC m size p (37*L.length) c) 214 (0,0))
 refine hK _ (37*L.length) ⟨h1.upd_same _,q1.keep k2 fun b hb e=>?_⟩ ((k1.mono fun _ h=>h.elim).trans k2)
 rcases Own.cases q1 with ⟨h0,_⟩ | ⟨b',cur,h0,_,hg,_⟩
 ·rw [h0] at hb;cases hb
 ·rw [h0] at hb
  cases hb
  subst e
  have:=h1.inj hg
  simp only [Obj.cells.injEq] at this
  exact absurd this.2.1 (by decide)
def trimM (s:MS) (f:Bool) (bs:List Int):MS:=⟨s.pw,cond f s.xa bs,cond f bs s.xb⟩
theorem mem_trim {q:MB} {s:MS} (h:MemsAt w q s) (f:Bool) {L:List Rec} (hk:KeptB (cond f s.xb s.xa) L) (hK:∀ w',MemsAt w' q (trimM s f (L.flatMap packB))→Keep (MFoot q w) w w'→R (.tuple #[]) w') :
  zB Tryz.prog 89 #[.pointer (some ⟨ramM q f,0,none⟩)] w R:=by
 obtain ⟨pa,la,ca,pb,lb,cb,ha,hb,hne⟩:=h.rams
 have hfit:=h.fit
 have hform:=h.form
 have bne:∀ {p:Option Addr} {l c:Nat} {bs:List Int} {k:Nat} {cs:Array Value} {t:TypeId} {f:Nat×Nat},OwnL byLay w q.base 5 p l c bs→Has w k (.cells cs t f)→t≠5→¬ p=some ⟨k,0,none⟩:=by
  intro p l c bs k cs t f ho hk ht hp
  rcases Own.cases ho with ⟨h0,_⟩ | ⟨b',cur,h0,_,hg,_⟩
  ·rw [h0] at hp;cases hp
  ·rw [h0] at hp;cases hp
   have:=hk.inj hg
   simp only [Obj.cells.injEq] at this
   exact ht this.2.1
 have lenL:∀ {bs:List Int},KeptB bs L→((L.flatMap packB).length:Int)≤(bs.length:Int):=fun hk=>by
  obtain ⟨t,_,_,ht3⟩:=hk.2
  rw [ht3,List.length_append];omega
 have nm:∀ {cs:Array Value} {b:Nat},Has w b (.cells cs 214 (0,0))→q.m≠b:=fun hb e=>by
  subst e
  have:=hb.inj (show Has w _ _ from h.main)
  simp only [Obj.cells.injEq] at this
  exact absurd this.2.1 (by decide)
 cases f
 ·refine ra_Trim ha hk (by rw [ha.row.length];omega) fun w' l' hr k=>?_
  have hll:=lenL hk
  exact hK w' ⟨k.has (show Has w _ _ from h.main) (nm ha.cells),⟨pa,l',ca,pb,lb,cb,hr,⟨k.has hb.cells fun e=>h.ne e.symm,hb.row.keep k fun b hb' e=>bne hb.row ha.cells (by decide) (by rw [hb',show b=q.a from e])⟩,hne⟩,h.ne,⟨Int.le_trans hll hfit.1,hfit.2⟩,hform,Nat.le_trans h.low k.size⟩ (k.mono fun i e=>Or.inr (Or.inl e))
 ·refine ra_Trim hb hk (by rw [hb.row.length];omega) fun w' l' hr k=>?_
  have hll:=lenL hk
  exact hK w' ⟨k.has (show Has w _ _ from h.main) (nm hb.cells),⟨pa,la,ca,pb,l',cb,⟨k.has ha.cells fun e=>h.ne e,ha.row.keep k fun b hb' e=>bne ha.row hb.cells (by decide) (by rw [hb',show b=q.b from e])⟩,hr,hne⟩,h.ne,⟨hfit.1,Int.le_trans hll hfit.2⟩,hform,Nat.le_trans h.low k.size⟩ (k.mono fun i e=>Or.inr (Or.inr (Or.inl e)))
theorem mem_records {q:MB} {s:MS} (h:MemsAt w q s) (f:Bool) {L:List Rec} (hk:KeptB (cond f s.xb s.xa) L) (hK:∀ p' c' w',OwnL rLay w' w.heap.size 246 p' L.length c' L→Keep (fun _=>False) w w'→R (.slice p' L.length c') w') :
  zB Tryz.prog 62 #[.pointer (some ⟨ramM q f,0,none⟩)] w R:=by
 obtain ⟨pa,la,ca,pb,lb,cb,ha,hb,hne⟩:=h.rams
 have hfit:=h.fit
 have hform:=h.form
 cases f
 ·refine ra_Records ha (by rw [ha.row.length];omega) hk.byb fun p' c' w' o k=>?_
  have hk:KeptB s.xa L:=hk
  rw [hk.scan] at o ⊢
  exact hK p' c' w' o k
 ·refine ra_Records hb (by rw [hb.row.length];omega) hk.byb fun p' c' w' o k=>?_
  have hk:KeptB s.xb L:=hk
  rw [hk.scan] at o ⊢
  exact hK p' c' w' o k
end calls
end Go.Proofs
namespace Go.Proofs
open Go.Ev
set_option maxRecDepth 100000
def F_Valid1 (x:Array Value) (fb:Nat) (w:World) (R:Value→World→Prop):Prop :=
 Alc 246 x w fun b w=>LdV b 0 (At w) fun v=>OpI .i64 v fun n=>Cb (n==6) (LdV b 1 (At w) fun v1=>OpI .u64 v1 fun n1=>LdV fb 0 (At w) fun v2=>OpI .u32 v2 fun n2
 => Ret [] (R (.bool (n1==(IntKind.wrap .u64 n2))) w)) (Ret [] (R (.bool false) w))
theorem C_Valid1 {x:Array Value} {fb:Nat} {w:World} {R:Value→World→Prop} (h:F_Valid1 x fb w R):zB Tryz.prog 164 #[.agg x,.pointer (some ⟨fb,0,none⟩)] w R:=by
 exact zE (args:=[.agg x,.pointer (some ⟨fb,0,none⟩)]) (mkAnn [] [] [] [] []) zD Tryz.func164 rfl rfl (by kernel_rfl) h
def F_ContV (sp:Option Addr) (sl:Nat) (sc:Nat) (fb:Nat) (w:World) (R:Value→World→Prop):Prop :=
 zB Tryz.prog 229 #[.slice sp sl sc,.func (.func 164) #[] #[.pointer (some ⟨fb,0,none⟩)]] w fun v w=>OpI .i64 v fun n=>Ret [] (R (.bool (decide (n≥0))) w)
theorem C_ContV {sp:Option Addr} {sl:Nat} {sc:Nat} {fb:Nat} {w:World} {R:Value→World→Prop} (h:F_ContV sp sl sc fb w R):zB Tryz.prog 163 #[.slice sp sl sc,.func (.func 164) #[] #[.pointer (some ⟨fb,0,none⟩)]] w R:=by
 exact zE (args:=[.slice sp sl sc,.func (.func 164) #[] #[.pointer (some ⟨fb,0,none⟩)]]) (mkAnn [] [] [] [] []) zD Tryz.func163 rfl rfl (by kernel_rfl) h
def F_IdxV (sp:Option Addr) (sl:Nat) (sc:Nat) (fb:Nat) (w:World) (R:Value→World→Prop):Prop :=
 LoopC (σ:=Int×Unit) (fun _ s1 w K1=>Cb (decide (s1.1<((sl:Nat):Int))) (IdxS sp sl s1.1 19 fun b o=>LdA 19 b o (At w) fun cs=>zB Tryz.prog 164 #[.agg cs,
 .pointer (some ⟨fb,0,none⟩)] w fun v w=>OpB v fun g=>Cb g (Ret [] (R (.int .i64 s1.1) w)) (K1 (IntKind.wrap .i64 (s1.1+1),()) w)) (Ret [] (R (.int .i64 (-1)) w)))
 (0,()) w
theorem C_IdxV {sp:Option Addr} {sl:Nat} {sc:Nat} {fb:Nat} {w:World} {R:Value→World→Prop} (h:F_IdxV sp sl sc fb w R):zB Tryz.prog 229 #[.slice sp sl sc,.func (.func 164) #[] #[.pointer (some ⟨fb,0,none⟩)]] w R:=by
 exact zE (args:=[.slice sp sl sc,.func (.func 164) #[] #[.pointer (some ⟨fb,0,none⟩)]]) (mkAnn [(2,[(8,(.int .i64))])] [] [] [] []) zD Tryz.func229 rfl rfl (by kernel_rfl) h
def F_merge_Valid (listp:Option Addr) (listl:Nat) (listc:Nat) (epoch:Int) (w:World) (R:Value→World→Prop):Prop :=
 Alc 62 #[.int .u32 epoch] w fun b w=>LdV b 0 (At w) fun v=>OpI .u32 v fun n=>Cb (n==0) (Ret [] (R (.bool true) w)) (zB Tryz.prog 163 #[.slice listp listl listc,
 .func (.func 164) #[] #[.pointer (some ⟨b,0,none⟩)]] w fun v1 w=>OpB v1 fun g=>Ret [] (R (.bool g) w))
theorem C_merge_Valid {listp:Option Addr} {listl:Nat} {listc:Nat} {epoch:Int} {w:World} {R:Value→World→Prop} (h:F_merge_Valid listp listl listc epoch w R):zB Tryz.prog 90 #[.slice listp listl listc,.int .u32 epoch] w R:=by
 exact zE (args:=[.slice listp listl listc,.int .u32 epoch]) (mkAnn [] [] [] [] []) zD Tryz.func90 rfl rfl (by kernel_rfl) h
end Go.Proofs
namespace Go.Proofs
open Go Go.Ev Go.RowKit
set_option maxRecDepth 100000
def hit (rf:Nat→Rec) (e:Int) (i:Nat):Prop:=(rf i).kind=6∧(rf i).ver=e
theorem sl_rec {W:World} {xp:Option Addr} {l:Nat} {rf:Nat→Rec} (h:Sl W 19 xp l fun i=>recL (rf i)) {i:Int} (h0:0≤i) (h1:i<l) {K:Array Value→Prop} (hK:K (recV (rf i.toNat))):IdxS xp l i 19 fun b o=>LdA 19 b o (At W) K :=
 h.idx h0 h1 fun b o hc _=>⟨recV (rf i.toNat),rfl,fun w' ⟨d,hd⟩ j hj=>by subst hd;have:=hc j hj;rw [show (W.dr d).cell? ⟨b,o+j,none⟩=W.cell? ⟨b,o+j,none⟩ from rfl,this];simp [recV],hK⟩
theorem idx_valid {xp:Option Addr} {l c fb:Nat} {rf:Nat→Rec} {e:Int} {w:World} {R:Value→World→Prop} (hl:l≤maxLen) (h:Sl w 19 xp l fun i=>recL (rf i)) (he:0≤e∧e≤4294967295) (hb:Has w fb (.cells #[.int .u32 e] 62 (0,0)))
  (h1:∀ w' i,i<l→hit rf e i→Keep (fun _=>False) w w'→R (.int .i64 (i:Nat)) w') (h0:∀ w',(∀ i,i<l→¬ hit rf e i)→Keep (fun _=>False) w w'→R (.int .i64 (-1)) w') :
  zB Tryz.prog 229 #[.slice xp l c,.func (.func 164) #[] #[.pointer (some ⟨fb,0,none⟩)]] w R:=by
 apply C_IdxV
 unfold F_IdxV
 have hmax:l≤9223372036854775807:=by simpa [maxLen] using hl
 refine LoopC_of (σ:=Int×Unit) (fun s w'=>∃ j:Nat,s.1=j∧j≤l∧(∀ i,i<j→¬ hit rf e i)∧Keep (fun _=>False) w w') (fun s _=>(l-s.1).toNat) ⟨0,rfl,by omega,fun i hi=>by omega,Keep.refl _ _⟩ ?_
 intro _ s w1 hs
 obtain ⟨i,u⟩:=s
 obtain ⟨j,hij,hjl,hno,k1⟩:=hs
 simp only at hij ⊢
 subst hij
 refine Cb_of (fun hc=>?_) (fun hc=>?_)
 ·have hj:j<l:=by simp only [decide_eq_true_eq] at hc;omega
  refine sl_rec (h.keep k1 (by simp)) (by omega) (by omega) ?_
  rw [show ((j:Nat):Int).toNat=j by omega]
  have hb1:=k1.has hb (by simp)
  have ew:IntKind.wrap .i64 ((j:Int)+1)=((j+1:Nat):Int):=by rw [wrapI (by omega) (by omega)];omega
  rw [ew]
  apply C_Valid1
  unfold F_Valid1
  rw [Alc_iff]
  have ha:=Has.new w1 (.cells (recV (rf j)) 246)
  have k2:=k1.alloc (.cells (recV (rf j)) 246)
  have hb2:=hb1.alloc (y:=.cells (recV (rf j)) 246)
  generalize w1.alloc (.cells (recV (rf j)) 246)=w2 at *
  have no:¬ hit rf e j→∃ m',m'<((l:Int)-(j:Int)).toNat∧((∃ j':Nat,((j+1:Nat):Int)=j'∧j'≤l∧(∀ i,i<j'→¬ hit rf e i)∧Keep (fun _=>False) w w2)∧((l:Int)-((j+1:Nat):Int)).toNat=m') :=
   fun hn=>⟨_,by omega,⟨j+1,rfl,hj,fun i hi=>by rcases Nat.lt_succ_iff_lt_or_eq.1 hi with h | h;exact hno i h;subst h;exact hn,k2⟩,rfl⟩
  refine LdV_has (v:=.int .i64 (rf j).kind) ha rfl ?_
  simp only [zA]
  refine Cb_of (fun hk=>?_) (fun hk=>?_)
  ·refine LdV_has (v:=.int .u64 (rf j).ver) ha rfl ?_
   simp only [zA]
   refine LdV_has (v:=.int .u32 e) hb2 rfl ?_
   simp only [zA,Ret_nil,OpB_bool]
   rw [wrapU64 (by omega) (by omega)]
   refine Cb_of (fun hv=>?_) (fun hv=>?_)
   ·exact h1 w2 j hj ⟨by simpa using hk,by simpa using hv⟩ k2
   ·exact no fun hh=>by simp [hh.2] at hv
  ·simp only [Ret_nil,OpB_bool,Cb_false]
   exact no fun hh=>by simp [hh.1] at hk
 ·have hj:j=l:=by simp only [decide_eq_false_iff_not] at hc;omega
  subst hj
  simp only [Ret_nil]
  exact h0 w1 hno k1
theorem merge_Valid {xp:Option Addr} {l c:Nat} {rf:Nat→Rec} {e:Int} {w:World} {R:Value→World→Prop} (hl:l≤maxLen) (h:Sl w 19 xp l fun i=>recL (rf i)) (he:0≤e∧e≤4294967295)
  (hK:∀ (r:Bool) w',(r=true ↔ e=0∨∃ i,i<l∧hit rf e i)→Keep (fun _=>False) w w'→R (.bool r) w') :
  zB Tryz.prog 90 #[.slice xp l c,.int .u32 e] w R:=by
 apply C_merge_Valid
 unfold F_merge_Valid
 rw [Alc_iff]
 have hb:=Has.new w (.cells #[.int .u32 e] 62)
 have k1:=Keep.new (fun _=>False) w (.cells #[.int .u32 e] 62)
 generalize w.alloc (.cells #[.int .u32 e] 62)=w1 at *
 refine LdV_has (v:=.int .u32 e) hb rfl ?_
 simp only [zA]
 refine Cb_of (fun hz=>?_) (fun hz=>?_)
 ·simp only [Ret_nil]
  exact hK true w1 ⟨fun _=>Or.inl (by simpa using hz),fun _=>rfl⟩ k1
 ·have hz':¬ e=0:=by simpa using hz
  apply C_ContV
  unfold F_ContV
  refine idx_valid hl (h.keep k1 (by simp)) he hb (fun w' i hi hh k2=>?_) (fun w' hno k2=>?_)
  ·simp only [zA,Ret_nil,OpB_bool]
   rw [show decide (((i:Nat):Int)≥0)=true by simp]
   exact hK true w' ⟨fun _=>Or.inr ⟨i,hi,hh⟩,fun _=>rfl⟩ (k1.trans k2)
  ·simp only [zA,Ret_nil,OpB_bool]
   rw [show decide ((-1:Int)≥0)=false from rfl]
   exact hK false w' ⟨fun h=>by simp at h,fun h=>by rcases h with h | ⟨i,hi,hh⟩;exact absurd h hz';exact absurd hh (hno i hi)⟩ (k1.trans k2)
theorem merge_ValidL {xp:Option Addr} {l c:Nat} {rs:List Rec} {e:Int} {w:World} {R:Value→World→Prop} (hl:l≤maxLen) (h:SlL rLay w xp l rs) (he:0≤e∧e≤4294967295)
  (hK:∀ w',Keep (fun _=>False) w w'→R (.bool (decide (e=0) || rs.any fun x=>decide (x.kind=6) && decide (x.ver=e))) w') :
  zB Tryz.prog 90 #[.slice xp l c,.int .u32 e] w R:=by
 have hlen:=h.1
 refine merge_Valid (rf:=fun i=>rs.getD i default) hl (fun i hi=>⟨rfl,?_⟩) he fun r w' hr k=>?_
 ·have hg:rs[i]? = some (rs.getD i default):=by
   rw [List.getD_eq_getElem?_getD,List.getElem?_eq_getElem (by omega)];rfl
  obtain ⟨b,o,hp,hc⟩:=h.2 i _ hg
  exact ⟨b,o,hp,hc⟩
 ·have e1:r=(decide (e=0) || rs.any fun x=>decide (x.kind=6) && decide (x.ver=e)):=by
   rw [Bool.eq_iff_iff,hr,Bool.or_eq_true,decide_eq_true_eq,List.any_eq_true]
   refine or_congr Iff.rfl ⟨?_,?_⟩
   ·rintro ⟨i,hi,h1,h2⟩
    have hg:rs[i]? = some (rs.getD i default):=by
     rw [List.getD_eq_getElem?_getD,List.getElem?_eq_getElem (by omega)];rfl
    exact ⟨_,List.mem_of_getElem? hg,by rw [Bool.and_eq_true,decide_eq_true_eq,decide_eq_true_eq];exact ⟨h1,h2⟩⟩
   ·rintro ⟨x,hx,hh⟩
    rw [Bool.and_eq_true,decide_eq_true_eq,decide_eq_true_eq] at hh
    obtain ⟨i,hi⟩:=List.getElem?_of_mem hx
    have hlt:=(List.getElem?_eq_some_iff.1 hi).1
    have:rs.getD i default=x:=by rw [List.getD_eq_getElem?_getD,hi];rfl
    refine ⟨i,by omega,?_⟩
    unfold hit
    simp only
    rw [this]
    exact hh
  rw [e1] at *
  exact hK w' k
end Go.Proofs
namespace Go.Proofs
open Go.Ev
set_option maxRecDepth 100000
def F_merge_Top (listsp:Option Addr) (listsl:Nat) (listsc:Nat) (w:World) (R:Value→World→Prop):Prop :=
 zB Tryz.prog 201 #[.slice listsp listsl listsc] w fun v w=>OpS v fun p l c=>LoopC (σ:=Int×Int×Unit) (fun _ s1 w K1=>Cb (decide (s1.2.1<((l:Nat):Int)))
 (IdxS p l s1.2.1 19 fun b o=>LdA 19 b o (At w) fun cs=>Alc 246 (zc Tryz.prog 246) w fun b1 w=>StA 19 b1 0 cs w fun w=>LdV b1 0 (At w) fun v1=>OpI .i64 v1 fun n
 => Cb (decide (n≥1)) (LdV b1 0 (At w) fun v2=>OpI .i64 v2 fun n1=>Cb (decide (n1≤5)) (LdV b1 1 (At w) fun v3=>OpI .u64 v3 fun n2=>DoQ Tryz.prog (Builtin.max_
 #[39,39] 39 #[.int .u64 s1.1,.int .u64 n2]) (At w) fun v4=>OpI .u64 v4 fun n3=>K1 (n3,(IntKind.wrap .i64 (s1.2.1+1),())) w) (K1 (s1.1,(IntKind.wrap .i64 (s1.2.1
 + 1),())) w)) (K1 (s1.1,(IntKind.wrap .i64 (s1.2.1+1),())) w)) (Ret [] (R (.int .u64 s1.1) w))) (0,(0,())) w
theorem C_merge_Top {listsp:Option Addr} {listsl:Nat} {listsc:Nat} {w:World} {R:Value→World→Prop} (h:F_merge_Top listsp listsl listsc w R):zB Tryz.prog 166 #[.slice listsp listsl listsc] w R:=by
 exact zE (args:=[.slice listsp listsl listsc]) (mkAnn [(3,[(3,(.int .u64)),(9,(.int .i64))])] [] [] [] []) zD Tryz.func166 rfl rfl (by kernel_rfl) h
def F_merge_Dirty (listsp:Option Addr) (listsl:Nat) (listsc:Nat) (w:World) (R:Value→World→Prop):Prop :=
 DoV Tryz.prog (Instr.makeMap 329 none) w fun v w=>OpM v fun m=>DoV Tryz.prog (Instr.makeMap 330 none) w fun v1 w=>OpM v1 fun m1=>zB Tryz.prog 201 #[.slice
 listsp listsl listsc] w fun v2 w=>OpS v2 fun p l c=>LoopC (σ:=Int×Unit) (fun _ s1 w K1=>Cb (decide (s1.1<((l:Nat):Int))) (IdxS p l s1.1 19 fun b o=>LdA
 19 b o (At w) fun cs=>Alc 246 (zc Tryz.prog 246) w fun b1 w=>StA 19 b1 0 cs w fun w=>LdV b1 2 (At w) fun v3=>OpI .i64 v3 fun n=>DoQ Tryz.prog (Instr.lookup 329
 (.map m) (.int .i64 n) true) (At w) fun v4=>T2 v4 fun v5 v6=>OpA 19 v5 fun cs1=>OpB v6 fun g=>Alc 246 (zc Tryz.prog 246) w fun b2 w=>StA 19 b2 0 cs1 w fun w =>
 LdV b1 0 (At w) fun v7=>OpI .i64 v7 fun n1=>Cb (n1==2) (LdV b1 2 (At w) fun v8=>OpI .i64 v8 fun n2=>DoQ Tryz.prog (Instr.lookup 330 (.map m1) (.int .i64 n2)
 true) (At w) fun v9=>T2 v9 fun v10 v11=>OpI .u64 v10 fun n3=>OpB v11 fun g1=>Cb (!g1) (LdV b1 2 (At w) fun v12=>OpI .i64 v12 fun n4=>LdV b1 1 (At w) fun v13 =>
 OpI .u64 v13 fun n5=>DoU Tryz.prog (Instr.mapUpdate 330 (.map m1) (.int .i64 n4) (.int .u64 n5)) w fun w=>K1 (IntKind.wrap .i64 (s1.1+1),()) w) (LdV b1 1 (At w) fun
 v14=>OpI .u64 v14 fun n6=>Cb (decide (n3<n6)) (LdV b1 2 (At w) fun v15=>OpI .i64 v15 fun n7=>LdV b1 1 (At w) fun v16=>OpI .u64 v16 fun n8=>DoU Tryz.prog
 (Instr.mapUpdate 330 (.map m1) (.int .i64 n7) (.int .u64 n8)) w fun w=>K1 (IntKind.wrap .i64 (s1.1+1),()) w) (K1 (IntKind.wrap .i64 (s1.1+1),()) w))) (LdV b1 0 (At
 w) fun v17=>OpI .i64 v17 fun n9=>Cb (n9==1) (Cb (!g) (LdV b1 2 (At w) fun v18=>OpI .i64 v18 fun n10=>LdA 19 b1 0 (At w) fun cs2=>DoU Tryz.prog (Instr.mapUpdate
 329 (.map m) (.int .i64 n10) (.agg cs2)) w fun w=>K1 (IntKind.wrap .i64 (s1.1+1),()) w) (LdV b2 1 (At w) fun v19=>OpI .u64 v19 fun n11=>LdV b1 1 (At w) fun v20 =>
 OpI .u64 v20 fun n12=>Cb (decide (n11<n12)) (LdV b1 2 (At w) fun v21=>OpI .i64 v21 fun n13=>LdA 19 b1 0 (At w) fun cs3=>DoU Tryz.prog (Instr.mapUpdate 329 (.map
 m) (.int .i64 n13) (.agg cs3)) w fun w=>K1 (IntKind.wrap .i64 (s1.1+1),()) w) (K1 (IntKind.wrap .i64 (s1.1+1),()) w))) (K1 (IntKind.wrap .i64 (s1.1+1),()) w)))
 (DoV Tryz.prog (Instr.range 329 (.map m)) w fun v22 w=>OpN v22 fun b3 o1=>LoopC (σ:=(Option Addr×Nat×Nat)×Unit) (fun _ s2 w K2=>DoV Tryz.prog (Instr.next
 (.pointer (some ⟨b3,o1,none⟩)) false 0) w fun v23 w=>OpX v23 (fun k x=>DoQ Tryz.prog (Instr.entry (.pointer (some ⟨b3,o1,none⟩))) (At w) fun v24=>T2 v24 fun v25
 v26=>OpI .i64 v25 fun n14=>OpA 19 v26 fun cs4=>Alc 246 (zc Tryz.prog 246) w fun b4 w=>StA 19 b4 0 cs4 w fun w=>DoQ Tryz.prog (Instr.lookup 330 (.map m1) (.int
 .i64 n14) true) (At w) fun v27=>T2 v27 fun v28 v29=>OpI .u64 v28 fun n15=>OpB v29 fun g2=>Cb (!g2) (LdA 19 b4 0 (At w) fun cs5=>DoV Tryz.prog (Instr.buildSlice
 113 1 #[(0,.agg cs5)]) w fun v30 w=>OpS v30 fun p1 l1 c1=>DoV Tryz.prog (Builtin.append_ #[113,113] 113 #[.slice s2.1.1 s2.1.2.1 s2.1.2.2,.slice p1 l1 c1]) w fun
 v31 w=>OpS v31 fun p2 l2 c2=>K2 ((p2,l2,c2),()) w) (LdV b4 1 (At w) fun v32=>OpI .u64 v32 fun n16=>Cb (decide (n15<n16)) (LdA 19 b4 0 (At w) fun cs6=>DoV
 Tryz.prog (Instr.buildSlice 113 1 #[(0,.agg cs6)]) w fun v33 w=>OpS v33 fun p3 l3 c3=>DoV Tryz.prog (Builtin.append_ #[113,113] 113 #[.slice s2.1.1 s2.1.2.1
 s2.1.2.2,.slice p3 l3 c3]) w fun v34 w=>OpS v34 fun p4 l4 c4=>K2 ((p4,l4,c4),()) w) (K2 ((s2.1.1,s2.1.2.1,s2.1.2.2),()) w))) (zB Tryz.prog 231 #[.slice
 s2.1.1 s2.1.2.1 s2.1.2.2,.func (.func 232) #[] #[]] w fun v35 w=>Ret [] (R (.slice s2.1.1 s2.1.2.1 s2.1.2.2) w))) ((none,0,0),()) w)) (0,()) w
theorem C_merge_Dirty {listsp:Option Addr} {listsl:Nat} {listsc:Nat} {w:World} {R:Value→World→Prop} (h:F_merge_Dirty listsp listsl listsc w R):zB Tryz.prog 167 #[.slice listsp listsl listsc] w R:=by
 exact zE (args:=[.slice listsp listsl listsc]) (mkAnn [(3,[(21,(.int .i64))]),(15,[(11,.slice)])] [] [] [(80,((.int .i64),(.agg 19)))] []) zD Tryz.func167 rfl rfl (by kernel_rfl) h
def F_merge_Dirty_1 (a:Array Value) (b:Array Value) (w:World) (R:Value→World→Prop):Prop :=
 Alc 246 a w fun b1 w=>Alc 246 b w fun b2 w=>Dr1 w fun w=>LdV b1 1 (At w) fun v=>OpI .u64 v fun n=>LdV b2 1 (At w) fun v1=>OpI .u64 v1 fun n1=>CallS Tryz.prog
 234 #[.int .u64 n,.int .u64 n1] w fun v2=>OpI .i64 v2 fun n2=>LdV b1 2 (At w) fun v3=>OpI .i64 v3 fun n3=>LdV b2 2 (At w) fun v4=>OpI .i64 v4 fun n4=>CallS
 Tryz.prog 235 #[.int .i64 n3,.int .i64 n4] w fun v5=>OpI .i64 v5 fun n5=>DoV Tryz.prog (Instr.buildSlice 69 2 #[(0,.int .i64 n2),(1,.int .i64 n5)]) w fun v6 w =>
 OpS v6 fun p l c=>zB Tryz.prog 233 #[.slice p l c] w fun v7 w=>OpI .i64 v7 fun n6=>Ret [] (R (.int .i64 n6) w)
theorem C_merge_Dirty_1 {a:Array Value} {b:Array Value} {w:World} {R:Value→World→Prop} (h:F_merge_Dirty_1 a b w R):zB Tryz.prog 232 #[.agg a,.agg b] w R:=by
 exact zE (args:=[.agg a,.agg b]) (mkAnn [] [] [] [] []) zD Tryz.func232 rfl rfl (by kernel_rfl) h
end Go.Proofs
namespace Go.Proofs
open Go Go.Ev Go.Sort
set_option maxRecDepth 100000
theorem under_newest:Tryz.prog.underlying 329=some (.map 3 246):=by kernel_rfl
theorem under_clean:Tryz.prog.underlying 330=some (.map 3 39):=by kernel_rfl
theorem zero_rec (w:World):(zeroValue 246).run Tryz.prog w=.ok (.agg (recV rec00)) w:=run_zeroValue (i:=((Tryz.prog.info? 246).get (by kernel_rfl))) (by kernel_rfl) (by kernel_rfl)
theorem zero_u64 (w:World):(zeroValue 39).run Tryz.prog w=.ok (.int .u64 0) w:=run_zeroValue (i:=((Tryz.prog.info? 39).get (by kernel_rfl))) (by kernel_rfl) (by kernel_rfl)
def recA (r:Rec):Value:=.agg (recV r)
def u64V (n:Int):Value:=.int .u64 n
theorem look_newest {w:World} {m:Nat} {nw:List (Int×Rec)} (h:MapAt .i64 w m (tag recA nw)) (x:Int) :
  (Instr.lookup 329 (.map (some m)) (.int .i64 x) true).run Tryz.prog w=.ok (.tuple #[.agg (recV ((mlook nw x).getD rec00)),.bool (mlook nw x).isSome]) w:=by
 rw [run_lookup under_newest under_int zero_rec h,look_tag]
 cases mlook nw x <;> rfl
theorem look_clean {w:World} {m:Nat} {cl:List (Int×Int)} (h:MapAt .i64 w m (tag u64V cl)) (x:Int) :
  (Instr.lookup 330 (.map (some m)) (.int .i64 x) true).run Tryz.prog w=.ok (.tuple #[.int .u64 ((mlook cl x).getD 0),.bool (mlook cl x).isSome]) w:=by
 rw [run_lookup under_clean under_int zero_u64 h,look_tag]
 cases mlook cl x <;> rfl
abbrev Sta:=List (Int×Rec)×List (Int×Int)
def stepD (s:Sta) (r:Rec):Sta :=
 if r.kind=2 then (s.1,match mlook s.2 r.lba with
  | none=>ins s.2 r.lba r.ver
  | some v=>if v<r.ver then ins s.2 r.lba r.ver else s.2)
 else if r.kind=1 then (match mlook s.1 r.lba with
  | none=>ins s.1 r.lba r
  | some o=>if o.ver<r.ver then ins s.1 r.lba r else s.1,s.2)
 else s
def keptB (cl:List (Int×Int)) (p:Int×Rec):Bool:=match mlook cl p.1 with
 | none=>true
 | some v=>decide (v<p.2.ver)
def leftD (s:Sta):List Rec:=(s.1.filter (keptB s.2)).map (·.2)
structure StaAt (w:World) (m m1:Nat) (s:Sta):Prop where
 nw:MapAt .i64 w m (tag recA s.1)
 cl:MapAt .i64 w m1 (tag u64V s.2)
 ne:m≠m1
theorem StaAt.keep {w w':World} {m m1:Nat} {s:Sta} {S:Nat→Prop} (h:StaAt w m m1 s) (hk:Keep S w w') (h1:¬ S m) (h2:¬ S m1):StaAt w' m m1 s:=⟨h.nw.keep hk h1,h.cl.keep hk h2,h.ne⟩
theorem put_newest {w:World} {m m1:Nat} {s:Sta} (h:StaAt w m m1 s) (r:Rec) {K:World→Prop} (hK:∀ w',StaAt w' m m1 (ins s.1 r.lba r,s.2)→Keep (fun k=>k=m∨k=m1) w w'→K w') :
  DoU Tryz.prog (Instr.mapUpdate 329 (.map (some m)) (.int .i64 r.lba) (.agg (recV r))) w K:=by
 obtain ⟨arr,clk,hr,ho⟩:=run_mapUpdate (P:=Tryz.prog) under_newest under_int h.nw r.lba (recA r)
 refine ⟨_,hr,?_⟩
 rw [ins_tag] at ho
 obtain ⟨arr0,clk0,hm,_⟩:=h.nw
 have k:Keep (fun k=>k=m) w (w.upd m (.map arr clk)):=Keep.one _ _ _
 exact hK _ ⟨⟨arr,clk,hm.upd_same _,ho⟩,h.cl.keep k (fun e=>h.ne e.symm),h.ne⟩ (k.mono fun _ h=>Or.inl h)
theorem put_clean {w:World} {m m1:Nat} {s:Sta} (h:StaAt w m m1 s) (x v:Int) {K:World→Prop} (hK:∀ w',StaAt w' m m1 (s.1,ins s.2 x v)→Keep (fun k=>k=m∨k=m1) w w'→K w') :
  DoU Tryz.prog (Instr.mapUpdate 330 (.map (some m1)) (.int .i64 x) (.int .u64 v)) w K:=by
 obtain ⟨arr,clk,hr,ho⟩:=run_mapUpdate (P:=Tryz.prog) under_clean under_int h.cl x (u64V v)
 refine ⟨_,hr,?_⟩
 rw [ins_tag] at ho
 obtain ⟨arr0,clk0,hm,_⟩:=h.cl
 have k:Keep (fun k=>k=m1) w (w.upd m1 (.map arr clk)):=Keep.one _ _ _
 exact hK _ ⟨h.nw.keep k h.ne,⟨arr,clk,hm.upd_same _,ho⟩,h.ne⟩ (k.mono fun _ h=>Or.inr h)
theorem cmp_dirty (r s:Rec) (w:World):Calls Tryz.prog 232 #[.agg (recV r),.agg (recV s)] w fun e w'=>e=.returned (.int .i64 (cmpR r s))∧∃ q os,w'=grow (w.drewN q) os:=by
 have key:zB Tryz.prog 232 #[.agg (recV r),.agg (recV s)] w fun v w'=>v=.int .i64 (cmpR r s)∧∃ q os,w'=grow (w.drewN q) os:=by
  apply C_merge_Dirty_1
  unfold F_merge_Dirty_1
  rw [Alc_iff,Alc_iff]
  have ha:=(Has.new w (.cells (recV r) 246)).alloc (y:=.cells (recV s) 246)
  have hb:=Has.new (w.alloc (.cells (recV r) 246)) (.cells (recV s) 246)
  have hg:∃ q:Nat,∀ d,w.drawn≤d→((w.alloc (.cells (recV r) 246)).alloc (.cells (recV s) 246)).dr d=grow (w.drewN (d-w.drawn)) #[.cells (recV r) 246,.cells (recV s) 246]:=by
   refine ⟨0,fun d hd=>?_⟩
   have:w.drawn+(d-w.drawn)=d:=by omega
   unfold World.dr World.alloc grow World.drewN
   simp only [this]
   congr 1
  obtain ⟨_,hg⟩:=hg
  generalize hw2:(w.alloc (.cells (recV r) 246)).alloc (.cells (recV s) 246)=w2 at *
  have hdr:w2.drawn=w.drawn:=by rw [← hw2];rfl
  intro d hd
  rw [hdr] at hd
  refine LdV_has (v:=.int .u64 r.ver) (ha.dr d) rfl ?_
  simp only [zA]
  refine LdV_has (v:=.int .u64 s.ver) (hb.dr d) rfl ?_
  simp only [zA]
  refine ⟨.int .i64 (cmpI r.ver s.ver),?_,?_⟩
  ·exact Calls.mono (compare_u64 (R:=fun v w'=>v=.int .i64 (cmpI r.ver s.ver)∧w'=w2.dr d) r.ver s.ver (w2.dr d) ⟨rfl,rfl⟩) fun e w' ⟨v,he,hv,hw⟩=>by subst hv;exact ⟨he,hw⟩
  simp only [zA]
  refine LdV_has (v:=.int .i64 r.lba) (ha.dr d) rfl ?_
  simp only [zA]
  refine LdV_has (v:=.int .i64 s.lba) (hb.dr d) rfl ?_
  simp only [zA]
  refine ⟨.int .i64 (cmpI r.lba s.lba),?_,?_⟩
  ·exact Calls.mono (compare_int (R:=fun v w'=>v=.int .i64 (cmpI r.lba s.lba)∧w'=w2.dr d) r.lba s.lba (w2.dr d) ⟨rfl,rfl⟩) fun e w' ⟨v,he,hv,hw⟩=>by subst hv;exact ⟨he,hw⟩
  simp only [zA]
  refine ⟨_,_,run_buildSlice (w2.dr d) 69 3 2 _ #[.int .i64 (cmpI r.ver s.ver),.int .i64 (cmpI r.lba s.lba)] ((Tryz.prog.info? 3).get (by kernel_rfl)) (.int .i64 0) (by kernel_rfl) (by kernel_rfl) (by kernel_rfl) (by decide +kernel) (by decide +kernel) (by kernel_rfl),?_⟩
  simp only [zC]
  refine or_int _ _ _ _ _ (Has.new _ _) ?_
  simp only [zA,Ret_nil]
  refine ⟨rfl,d-w.drawn,#[.cells (recV r) 246,.cells (recV s) 246,.cells #[.int .i64 (cmpI r.ver s.ver),.int .i64 (cmpI r.lba s.lba)] 3],?_⟩
  rw [hg d hd,alloc_eq_grow,grow_grow]
  rfl
 exact Calls.mono key fun e w' ⟨v,he,hv,hw⟩=>by subst hv;exact ⟨he,hw⟩
def unRec (v:Value):Rec:=⟨numOf v.cells[0]?,numOf v.cells[1]?,numOf v.cells[2]?,fun i=>numOf v.cells[3+i.val]?⟩
theorem un_recA (r:Rec):unRec (recA r)=r:=by
 obtain ⟨k,v,l,f⟩:=r
 have:(fun i:Fin 16=>numOf (recA ⟨k,v,l,f⟩).cells[3+i.val]?)=f:=by
  funext i
  match i with
  | ⟨0,_⟩=>rfl | ⟨1,_⟩=>rfl | ⟨2,_⟩=>rfl | ⟨3,_⟩=>rfl | ⟨4,_⟩=>rfl | ⟨5,_⟩=>rfl | ⟨6,_⟩=>rfl | ⟨7,_⟩=>rfl
  | ⟨8,_⟩=>rfl | ⟨9,_⟩=>rfl | ⟨10,_⟩=>rfl | ⟨11,_⟩=>rfl | ⟨12,_⟩=>rfl | ⟨13,_⟩=>rfl | ⟨14,_⟩=>rfl | ⟨15,_⟩=>rfl
  | ⟨n+16,hn⟩=>exact absurd hn (by omega)
 unfold unRec
 rw [this]
 rfl
theorem copy_rec {w:World} {r:Rec} {K:Nat→World→Prop} (hK:∀ w',Has w' w.heap.size (.cells (recV r) 246 (0,0))→Keep (fun _=>False) w w'→w.heap.size<w'.heap.size→K w.heap.size w') :
  Alc 246 (zc Tryz.prog 246) w fun b w=>StA 19 b 0 (recV r) w fun w=>K b w:=by
 rw [Alc_iff]
 refine StA_all (Has.new _ _) rfl (by rw [zc_rec'];rfl) (one_recV' _) ?_
 exact hK _ ((Has.new _ _).upd_same _) ((Keep.new _ _ _).upd (by omega) _) (by simp)
theorem merge_Dirty {xp:Option Addr} {n c:Nat} {rss:List (List Rec)} {w:World} {R:Value→World→Prop} (h:Lists w xp n rss) (hn:n≤1000000000) (ht:total rss≤10000000)
  (hK:∀ (p:Option Addr) (l cp:Nat) (rs:List Rec) (w':World),rs.Perm (leftD (rss.flatten.foldl stepD ([],[])))→ByVer rs→Own w' w.heap.size 246 19 p l cp (rs.flatMap recL)→Keep (fun _=>False) w w'→R (.slice p l cp) w') :
  zB Tryz.prog 167 #[.slice xp n c] w R:=by
 apply C_merge_Dirty
 unfold F_merge_Dirty
 refine ⟨_,_,run_makeMap,?_⟩
 simp only [OpM_map]
 have hm:=Has.new w (.map #[] 0)
 have k1:=Keep.new (fun _=>False) w (.map #[] 0)
 refine ⟨_,_,run_makeMap,?_⟩
 simp only [OpM_map]
 have hm1:=Has.new (w.alloc (.map #[] 0)) (.map #[] 0)
 have hm':=hm.alloc (y:=.map #[] 0)
 have k2:=k1.alloc (.map #[] 0)
 have hne:w.heap.size≠(w.alloc (.map #[] 0)).heap.size:=hm.ne_new
 have hgt:w.heap.size<(w.alloc (.map #[] 0)).heap.size:=hm.lt
 generalize hw2:(w.alloc (.map #[] 0)).alloc (.map #[] 0)=w2 at *
 generalize (w.alloc (.map #[] 0)).heap.size=m1 at *
 have hst:StaAt w2 w.heap.size m1 ([],[]):=⟨⟨#[],0,hm',MapOk.nil _⟩,⟨#[],0,hm1,MapOk.nil _⟩,hne⟩
 have hl2:=h.keep k2 (by simp)
 have hm1lt:=hm1.lt
 refine concat_recs hl2 hn (by omega) fun p l cp w3 ho k3=>?_
 simp only [zC]
 have hst3:=hst.keep k3 (by simp) (by simp)
 have hlen:l=rss.flatten.length:=by
  have h5:=ho
  rw [flatMap_rows] at h5
  have h6:=h5.count (rows_len _) (by decide)
  rwa [List.length_map] at h6
 have hbd:rss.flatten.length≤10000000:=ht
 generalize hall:rss.flatten=all at *
 have hsz3:=k3.size
 have k23:=k2.trans k3
 refine LoopC_of (σ:=Int×Unit) (fun s w'=>∃ j:Nat,s.1=j∧j≤l∧StaAt w' w.heap.size m1 ((all.take j).foldl stepD ([],[]))∧Own w' w2.heap.size 246 19 p l cp (all.flatMap recL)∧Keep (fun _=>False) w w'∧w2.heap.size≤w'.heap.size)
  (fun s _=>(l-s.1).toNat) ⟨0,rfl,by omega,by simpa using hst3,ho,k23,hsz3⟩ ?_
 clear hst3 ho
 intro _ s w4 hs
 obtain ⟨i,u⟩:=s
 obtain ⟨j,hij,hjl,hst,ho,k4,hsz4⟩:=hs
 simp only at hij ⊢
 subst hij
 refine Cb_of (fun hc=>?_) (fun hc=>?_)
 ·have hj:j<l:=by simp only [decide_eq_true_eq] at hc;omega
  have hget:all[((j:Nat):Int).toNat]? = some all[j]:=by simp [show j<all.length by omega]
  generalize hr:all[j]=r at *
  refine LdA_row ho (by omega) hget ?_
  have hstep:(all.take (j+1)).foldl stepD ([],[])=stepD ((all.take j).foldl stepD ([],[])) r:=by
   rw [List.take_add_one,List.foldl_append,show all[j]? = some r by simpa using hget]
   rfl
  generalize hS:(all.take j).foldl stepD ([],[])=S at *
  have ew:IntKind.wrap .i64 ((j:Int)+1)=((j+1:Nat):Int):=by rw [wrapI (by omega) (by omega)];omega
  rw [ew]
  have fin:∀ w',StaAt w' w.heap.size m1 (stepD S r)→Own w' w2.heap.size 246 19 p l cp (all.flatMap recL)→Keep (fun _=>False) w w'→w2.heap.size≤w'.heap.size →
    ∃ m',m'<((l:Int)-(j:Int)).toNat∧((∃ j':Nat,((j+1:Nat):Int)=j'∧j'≤l∧StaAt w' w.heap.size m1 ((all.take j').foldl stepD ([],[]))∧Own w' w2.heap.size 246 19 p l cp (all.flatMap recL)∧Keep (fun _=>False) w w'∧w2.heap.size≤w'.heap.size)∧((l:Int)-((j+1:Nat):Int)).toNat=m') :=
   fun w' a b c d=>⟨_,by omega,⟨j+1,rfl,hj,by rw [hstep];exact a,b,c,d⟩,rfl⟩
  refine copy_rec (K:=fun b1 w=>_) fun w5 hb1 k5 hs5=>?_
  have hst5:=hst.keep k5 (by simp) (by simp)
  refine LdV_has (v:=.int .i64 r.lba) hb1 rfl ?_
  simp only [zA]
  refine DoQ_of (fun d=>look_newest (hst5.nw.dr d) r.lba) ?_
  simp only [T2_mk,OpA_agg,OpB_bool]
  refine ⟨rfl,copy_rec (K:=fun b2 w=>_) fun w6 hb2 k6 hs6=>?_⟩
  have hb1':=k6.has hb1 (by simp)
  have hst6:=hst5.keep k6 (by simp) (by simp)
  have k56:=k5.trans k6
  have ho6:=ho.keep k56 (by simp)
  have k46:=k4.trans k56
  have hsz6:w2.heap.size≤w6.heap.size:=by have:=k56.size;omega
  have finP:∀ w',StaAt w' w.heap.size m1 (stepD S r)→Keep (fun k=>k=w.heap.size∨k=m1) w6 w'→∃ m',m'<((l:Int)-(j:Int)).toNat∧((∃ j':Nat,((j+1:Nat):Int)=j'∧j'≤l∧StaAt w' w.heap.size m1 ((all.take j').foldl stepD ([],[]))∧Own w' w2.heap.size 246 19 p l cp (all.flatMap recL)∧Keep (fun _=>False) w w'∧w2.heap.size≤w'.heap.size)∧((l:Int)-((j+1:Nat):Int)).toNat=m') :=
   fun w' a b=>fin w' a (ho6.keep b (fun k hp=>by have:=(ho6.lt hp).1;omega)) (k46.trans' b (fun k hk e=>by omega)) (by have:=b.size;omega)
  refine LdV_has (v:=.int .i64 r.kind) hb1' rfl ?_
  simp only [zA]
  refine Cb_of (fun hk=>?_) (fun hk=>?_)
  ·have hk':r.kind=2:=by simpa using hk
   refine LdV_has (v:=.int .i64 r.lba) hb1' rfl ?_
   simp only [zA]
   refine DoQ_of (fun d=>look_clean (hst6.cl.dr d) r.lba) ?_
   simp only [T2_mk,zA,OpB_bool]
   cases hl:mlook S.2 r.lba with
   | none =>
    simp only [Option.isSome_none,Bool.not_false,Cb_true]
    refine LdV_has (v:=.int .i64 r.lba) hb1' rfl ?_
    simp only [zA]
    refine LdV_has (v:=.int .u64 r.ver) hb1' rfl ?_
    simp only [zA]
    have e:stepD S r=(S.1,ins S.2 r.lba r.ver):=by simp [stepD,hk',hl]
    rw [e] at finP
    exact put_clean hst6 _ _ finP
   | some v =>
    simp only [Option.isSome_some,Bool.not_true,Cb_false,Option.getD_some]
    refine LdV_has (v:=.int .u64 r.ver) hb1' rfl ?_
    simp only [zA]
    refine Cb_of (fun hv=>?_) (fun hv=>?_)
    ·have hv':v<r.ver:=by simpa using hv
     refine LdV_has (v:=.int .i64 r.lba) hb1' rfl ?_
     simp only [zA]
     refine LdV_has (v:=.int .u64 r.ver) hb1' rfl ?_
     simp only [zA]
     have e:stepD S r=(S.1,ins S.2 r.lba r.ver):=by simp [stepD,hk',hl,hv']
     rw [e] at finP
     exact put_clean hst6 _ _ finP
    ·have hv':¬ v<r.ver:=by simpa using hv
     have e:stepD S r=S:=by simp [stepD,hk',hl,hv']
     rw [e] at finP
     exact finP w6 hst6 (Keep.refl _ _)
  ·have hk':¬ r.kind=2:=by simpa using hk
   refine LdV_has (v:=.int .i64 r.kind) hb1' rfl ?_
   simp only [zA]
   refine Cb_of (fun hd=>?_) (fun hd=>?_)
   ·have hd':r.kind=1:=by simpa using hd
    cases hl:mlook S.1 r.lba with
    | none =>
     simp only [Option.isSome_none,Bool.not_false,Cb_true]
     refine LdV_has (v:=.int .i64 r.lba) hb1' rfl ?_
     simp only [zA]
     refine LdA_all hb1' rfl ?_
     have e:stepD S r=(ins S.1 r.lba r,S.2):=by simp [stepD,hd',hl]
     rw [e] at finP
     exact put_newest hst6 r finP
    | some o =>
     rw [hl] at hb2
     simp only [Option.isSome_some,Bool.not_true,Cb_false]
     refine LdV_has (v:=.int .u64 o.ver) hb2 rfl ?_
     simp only [zA]
     refine LdV_has (v:=.int .u64 r.ver) hb1' rfl ?_
     simp only [zA]
     refine Cb_of (fun hv=>?_) (fun hv=>?_)
     ·have hv':o.ver<r.ver:=by simpa using hv
      refine LdV_has (v:=.int .i64 r.lba) hb1' rfl ?_
      simp only [zA]
      refine LdA_all hb1' rfl ?_
      have e:stepD S r=(ins S.1 r.lba r,S.2):=by simp [stepD,hd',hl,hv']
      rw [e] at finP
      exact put_newest hst6 r finP
     ·have hv':¬ o.ver<r.ver:=by simpa using hv
      have e:stepD S r=S:=by simp [stepD,hd',hl,hv']
      rw [e] at finP
      exact finP w6 hst6 (Keep.refl _ _)
   ·have hd':¬ r.kind=1:=by simpa using hd
    have e:stepD S r=S:=by simp [stepD,hk',hd']
    rw [e] at finP
    exact finP w6 hst6 (Keep.refl _ _)
 ·have hj:j=l:=by simp only [decide_eq_false_iff_not] at hc;omega
  subst hj
  have e0:all.take j=all:=by rw [hlen];simp
  rw [e0] at hst
  generalize hS:all.foldl stepD ([],[])=S at *
  have hlnw:S.1.length≤all.length:=by
   rw [← hS]
   have:∀ (l:List Rec) (t:Sta),(l.foldl stepD t).1.length≤t.1.length+l.length:=by
    intro l
    induction l with
    | nil=>intro t;simp
    | cons r l ih =>
     intro t
     rw [List.foldl_cons]
     have h1:=ih (stepD t r)
     have h2:(stepD t r).1.length≤t.1.length+1:=by
      unfold stepD
      split
      ·simp
      ·split
       ·simp only
        split
        ·rw [length_ins];split <;> omega
        ·split
         ·rw [length_ins];split <;> omega
         ·omega
       ·simp
     simp only [List.length_cons]
     omega
   have:=this all ([],[])
   simpa using this
  obtain ⟨w5,hr5,hI5,k5⟩:=run_rangeM (P:=Tryz.prog) under_newest hst.nw
  refine ⟨_,_,hr5,?_⟩
  simp only [OpN_some]
  have hcl5:=hst.cl.keep k5 (by simp)
  have k45:=k4.trans k5
  have hrw:=hI5.lt
  refine ⟨fun (mm:Nat) (s:(Option Addr×Nat×Nat)×Unit) w'=>∃ (left done:List (Int×Rec)),left.length=mm∧Iter .i64 w' w4.heap.size w.heap.size (tag recA left)∧(done++left).Perm S.1∧MapAt .i64 w' m1 (tag u64V S.2) ∧
    Own w' (w4.heap.size+1) 246 19 s.1.1 s.1.2.1 s.1.2.2 (((done.filter (keptB S.2)).map (·.2)).flatMap recL)∧Keep (fun _=>False) w w'∧w4.heap.size+1≤w'.heap.size,
   ⟨_,S.1,[],rfl,hI5,by simp,hcl5,Own.nil _ _ _ _,k45,by omega⟩,?_⟩
  intro _ mm s w6 hs
  obtain ⟨⟨q,ql,qc⟩,u⟩:=s
  obtain ⟨left,done,hmm,hI6,hperm,hcl6,ho6,k6,hsz6⟩:=hs
  simp only at ho6 ⊢
  have hcnt:∀ (rs:List Rec) {w:World} {q:Option Addr} {ql qc:Nat},Own w (w4.heap.size+1) 246 19 q ql qc (rs.flatMap recL)→ql=rs.length:=by
   intro rs w q ql qc h5
   rw [flatMap_rows] at h5
   have h6:=h5.count (rows_len _) (by decide)
   rwa [List.length_map] at h6
  have hdl:done.length+left.length=S.1.length:=by have:=hperm.length_eq;simpa using this
  have hql:ql≤done.length:=by
   rw [hcnt _ ho6,List.length_map]
   exact List.length_filter_le _ _
  have hS1:S.1.length≤10000000:=by omega
  rcases run_nextM (P:=Tryz.prog) (ty:=0) hI6 with ⟨hnil,hr6⟩ | ⟨x,v,left',w7,hp7,hr7,hI7,hA7,k7⟩
  ·refine ⟨_,_,hr6,Or.inr ⟨rfl,?_⟩⟩
   have hleft:left=[]:=by
    cases left with
    | nil=>rfl
    | cons a b=>simp [tag] at hnil
   subst hleft
   rw [List.append_nil] at hperm
   have eg:∀ args w,(callFunc 232 args).run Tryz.prog w=.ok (.enter 232 args) w:=enters_of Tryz.func232 (by kernel_rfl) rfl
   refine sort_row cmp_dirty eg ho6 (by omega) fun rs w8 hrp hrs ho8 k8=>?_
   simp only [Ret_nil]
   have hz4:=k4.size
   have k8':Keep (fun _=>False) w w8:=k6.trans' k8 (fun k hk e=>by have:=(ho6.lt e).1;omega)
   refine hK q ql qc rs w8 (hrp.trans ?_) hrs ?_ k8'
   ·exact (hperm.filter _).map _
   ·rcases ho8.cases with ⟨rfl,rfl,rfl,h0⟩ | ⟨b,cur,rfl,hb,hg,hle,hmx,hss,ht'⟩
    ·rw [h0];exact Own.nil _ _ _ _
    ·exact Own.mk (by omega) hg hle hmx hss ht'
  ·obtain ⟨e,left2,rfl,rfl,hp2⟩:=tag_out un_recA hp7
   refine ⟨_,_,hr7,Or.inl ⟨_,_,rfl,?_⟩⟩
   have hlt2:left.length=left2.length+1:=by have:=hp2.length_eq;simpa using this
   refine DoQ_of (fun d=>run_entryM (hA7.keep (Keep.drew (fun _=>False) w7 d) (by simp) (by simp))) ?_
   simp only [T2_mk,zA,recA,OpA_agg]
   have hz4:=k4.size
   have k67:Keep (fun _=>False) w w7:=k6.trans' k7 (fun k hk e=>by omega)
   have ho7:=ho6.keep k7 (fun k hp=>by have:=(ho6.lt hp).1;omega)
   have hcl7:=hcl6.keep k7 (by omega)
   refine ⟨rfl,copy_rec (K:=fun b2 w=>_) fun w8 hb8 k8 hs8=>?_⟩
   have hI8:=hI7.keep k8 (by simp) (by simp)
   have hcl8:=hcl7.keep k8 (by simp)
   have ho8:=ho7.keep k8 (by simp)
   have k08:=k67.trans k8
   have hsz8:w4.heap.size+1≤w8.heap.size:=by have:=k7.size;have:=k8.size;omega
   refine DoQ_of (fun d=>look_clean (hcl8.dr d) x) ?_
   simp only [T2_mk,zA,OpB_bool]
   have hperm2:((done++[(x,e)])++left2).Perm S.1:=by
    have h9:(done++left).Perm (done++(x,e)::left2):=hp2.append_left done
    have:=h9.symm.trans hperm
    simpa using this
   have ha:=Has.new w8 (.cells (recV e) 246)
   have k9:=Keep.new (fun _=>False) w8 (.cells (recV e) 246)
   have ho9:=ho8.keep k9 (by simp)
   obtain ⟨p',c',w10,hr10,ho10,k10⟩:=app_rec ho9 ha (by omega) (by have:=k9.size;omega)
   have hI9:=hI8.keep k9 (by simp) (by simp)
   have hcl9:=hcl8.keep k9 (by simp)
   have hz9:=k9.size
   have hz10:=k10.size
   have bl:∀ k,q=some ⟨k,0,none⟩→w4.heap.size+1≤k:=fun k hp=>(ho9.lt hp).1
   refine Cb_of (fun hb=>?_) (fun hb=>?_)
   ·have hl:mlook S.2 x=none:=by simpa using hb
    have hkp:keptB S.2 (x,e)=true:=by simp [keptB,hl]
    refine LdA_all hb8 rfl ?_
    refine ⟨_,_,bsl_rec e w8,?_⟩
    simp only [zC]
    refine ⟨_,_,hr10,?_⟩
    simp only [zC]
    exact ⟨left2.length,by omega,left2,done++[(x,e)],rfl,hI9.keep k10 (fun hp=>by have:=bl _ hp;omega) (fun hp=>by have:=bl _ hp;omega),hperm2,hcl9.keep k10 (fun hp=>by have:=bl _ hp;omega),
     by simpa [List.filter_append,hkp] using ho10,(k08.trans k9).trans' k10 (fun k hk hp=>by have:=bl _ hp;omega),by omega⟩
   ·cases hl:mlook S.2 x with
    | none=>simp [hl] at hb
    | some v =>
     refine LdV_has (v:=.int .u64 e.ver) hb8 rfl ?_
     simp only [zA,Option.getD_some]
     refine Cb_of (fun hv=>?_) (fun hv=>?_)
     ·have hkp:keptB S.2 (x,e)=true:=by simp only [keptB,hl];exact hv
      refine LdA_all hb8 rfl ?_
      refine ⟨_,_,bsl_rec e w8,?_⟩
      simp only [zC]
      refine ⟨_,_,hr10,?_⟩
      simp only [zC]
      exact ⟨left2.length,by omega,left2,done++[(x,e)],rfl,hI9.keep k10 (fun hp=>by have:=bl _ hp;omega) (fun hp=>by have:=bl _ hp;omega),hperm2,hcl9.keep k10 (fun hp=>by have:=bl _ hp;omega),
       by simpa [List.filter_append,hkp] using ho10,(k08.trans k9).trans' k10 (fun k hk hp=>by have:=bl _ hp;omega),by omega⟩
     ·have hkp:keptB S.2 (x,e)=false:=by simp only [keptB,hl];exact hv
      exact ⟨left2.length,by omega,left2,done++[(x,e)],rfl,hI8,hperm2,hcl8,by simpa [List.filter_append,hkp] using ho8,k08,hsz8⟩
end Go.Proofs
namespace Go.Proofs
open Go Go.Ev Go.RowKit
set_option maxRecDepth 100000
def topStep (t:Int) (r:Rec):Int:=if 1≤r.kind∧r.kind≤5 then max t r.ver else t
theorem run_maxU (a b:Int) (t:TypeId) (ts:Array TypeId) (w:World):(Builtin.max_ ts t #[.int .u64 a,.int .u64 b]).run Tryz.prog w=.ok (.int .u64 (max a b)) w:=by
 simp only [Builtin.max_,List.foldlM,Builtin.max2,Sem.run_bind,Sem.run_pure,if_true]
 by_cases h:a<b
 ·simp [h,Sem.run_pure,Int.max_eq_right (Int.le_of_lt h)]
 ·simp [h,Sem.run_pure,Int.max_eq_left (Int.not_lt.1 h)]
theorem merge_Top {xp:Option Addr} {n c:Nat} {rss:List (List Rec)} {w:World} {R:Value→World→Prop} (h:Lists w xp n rss) (hn:n≤1000000000) (ht:total rss≤10000000)
  (hK:∀ w',Keep (fun _=>False) w w'→R (.int .u64 (rss.flatten.foldl topStep 0)) w'):zB Tryz.prog 166 #[.slice xp n c] w R:=by
 apply C_merge_Top
 unfold F_merge_Top
 refine concat_recs h hn (by omega) fun p l cp w1 ho k1=>?_
 simp only [zC]
 have hlen:l=rss.flatten.length:=by
  have h5:=ho
  rw [flatMap_rows] at h5
  have h6:=h5.count (rows_len _) (by decide)
  rwa [List.length_map] at h6
 have hbd:rss.flatten.length≤10000000:=ht
 generalize rss.flatten=all at *
 refine LoopC_of (σ:=Int×Int×Unit) (fun s w'=>∃ j:Nat,s.2.1=j∧j≤l∧s.1=(all.take j).foldl topStep 0∧Own w' w.heap.size 246 19 p l cp (all.flatMap recL)∧Keep (fun _=>False) w w') (fun s _=>(l-s.2.1).toNat) ⟨0,rfl,by omega,rfl,ho,k1⟩ ?_
 clear ho
 intro _ s w2 hs
 obtain ⟨t,i,u⟩:=s
 obtain ⟨j,hij,hjl,htt,ho,k2⟩:=hs
 simp only at hij htt ⊢
 subst hij htt
 refine Cb_of (fun hc=>?_) (fun hc=>?_)
 ·have hj:j<l:=by simp only [decide_eq_true_eq] at hc;omega
  have hget:all[((j:Nat):Int).toNat]? = some all[j]:=by simp [show j<all.length by omega]
  generalize hr:all[j]=r at *
  have hstep:(all.take (j+1)).foldl topStep 0=topStep ((all.take j).foldl topStep 0) r:=by
   rw [List.take_add_one,List.foldl_append,show all[j]? = some r by simpa using hget]
   rfl
  have ew:IntKind.wrap .i64 ((j:Int)+1)=((j+1:Nat):Int):=by rw [wrapI (by omega) (by omega)];omega
  rw [ew]
  refine LdA_row ho (by omega) hget ?_
  refine copy_rec (K:=fun b1 w=>_) fun w3 hb k3 _=>?_
  have ho3:=ho.keep k3 (by simp)
  have fin:∀ t,t=topStep ((all.take j).foldl topStep 0) r→∃ m',m'<((l:Int)-(j:Int)).toNat∧((∃ j':Nat,((j+1:Nat):Int)=j'∧j'≤l∧t=(all.take j').foldl topStep 0∧Own w3 w.heap.size 246 19 p l cp (all.flatMap recL)∧Keep (fun _=>False) w w3)∧((l:Int)-((j+1:Nat):Int)).toNat=m') :=
   fun t e=>⟨_,by omega,⟨j+1,rfl,hj,by rw [hstep];exact e,ho3,k2.trans k3⟩,rfl⟩
  refine LdV_has (v:=.int .i64 r.kind) hb rfl ?_
  simp only [zA]
  refine Cb_of (fun h1=>?_) (fun h1=>?_)
  ·refine LdV_has (v:=.int .i64 r.kind) hb rfl ?_
   simp only [zA]
   refine Cb_of (fun h5=>?_) (fun h5=>?_)
   ·refine LdV_has (v:=.int .u64 r.ver) hb rfl ?_
    simp only [zA]
    refine DoQ_of (fun d=>run_maxU _ _ _ _ _) ?_
    simp only [zA]
    refine fin _ ?_
    unfold topStep
    rw [if_pos ⟨by simpa using h1,by simpa using h5⟩]
   ·refine fin _ ?_
    unfold topStep
    rw [if_neg (fun hh=>by have:=hh.2;simp at h5;omega)]
  ·refine fin _ ?_
   unfold topStep
   rw [if_neg (fun hh=>by have:=hh.1;simp at h1;omega)]
 ·have hj:j=l:=by simp only [decide_eq_false_iff_not] at hc;omega
  subst hj
  have e0:all.take j=all:=by rw [hlen];simp
  rw [e0]
  simp only [Ret_nil]
  exact hK w2 k2
def arCp (q:AB) (lk:Int) (pp:Option Addr) (s:AS):Array Value :=
 arW lk q.pb.m q.g q.sp q.g.d.toNat q.sc (some ⟨q.pb.a,0,none⟩) (some ⟨q.pb.b,0,none⟩) pp s.ua s.ub q.dk s.la s.ea s.lb s.eb s.split q.ms q.g.d.toNat q.mc q.pb.room s.later
theorem arCp_set (q:AB) (lk:Int) (pp:Option Addr) (s:AS):(arCp q lk pp s).extract 3 (3+4)=setV q.g q.sp q.g.d.toNat q.sc:=by
 apply Array.ext'
 simp only [Array.toList_extract,List.extract_eq_take_drop]
 rfl
theorem arCp_ra (q:AB) (lk:Int) (pp:Option Addr) (s:AS):(arCp q lk pp s).extract 7 (7+2)=#[.pointer (some ⟨q.pb.a,0,none⟩),.pointer (some ⟨q.pb.b,0,none⟩)]:=by
 apply Array.ext'
 simp only [Array.toList_extract,List.extract_eq_take_drop]
 rfl
structure ArC (w:World) (q:AB) (lk:Int) (pp:Option Addr) (s:AS):Prop where
 cells:Has w q.a (.cells (arCp q lk pp s) 143 (0,0))
 stm:StmAt w q.mb q.g q.bks q.pb.base q.sp q.sc s.ss s.ps.xa s.ps.xb
 desk:DkAt w q.dk s.d
 marks:OwnL iLay w q.pb.base 3 q.ms q.g.d.toNat q.mc s.marks
theorem ArAt.toC {w:World} {q:AB} {lk:Int} {s:AS} (h:ArAt w q lk s):ArC w q lk (some ⟨q.pb.p,0,none⟩) s:=⟨h.cells,h.stm,h.desk,h.marks⟩
structure ArP (w:World) (q:AB) (lk:Int) (pp:Option Addr) (s:AS):Prop where
 cells:Has w q.a (.cells (arCp q lk pp s) 143 (0,0))
 set:SetAt w q.sb s.ss
 disks:OwnL dLay w q.pb.base 111 q.sp q.g.d.toNat q.sc (q.bks.map Prod.fst)
 pair:PairAt w q.pb s.ps
 desk:DkAt w q.dk s.d
 marks:OwnL iLay w q.pb.base 3 q.ms q.g.d.toNat q.mc s.marks
theorem ArP.at {w:World} {q:AB} {lk:Int} {s:AS} (h:ArP w q lk (some ⟨q.pb.p,0,none⟩) s):ArAt w q lk s:=⟨h.cells,h.set,h.disks,h.pair,h.desk,h.marks⟩
section plain
variable {w w':World} {q:AB} {lk:Int} {pp:Option Addr} {s:AS}
theorem typ_ne {i x:Nat} {cs cs':Array Value} {t t':TypeId} {f f':Nat×Nat} (hi:Has w i (.cells cs t f)) (hx:Has w x (.cells cs' t' f')) (ht:t≠t'):¬ i=x:=fun e=>by
 subst e
 have:=hi.inj hx
 simp only [Obj.cells.injEq] at this
 exact ht this.2.1
theorem own_ne {α:Type} {L:Lay α} {b x:Nat} {e t:TypeId} {p:Option Addr} {l c:Nat} {xs:List α} {cs:Array Value} {f:Nat×Nat} (h:OwnL L w b e p l c xs) (hx:Has w x (.cells cs t f)) (ht:e≠t):∀ k,p=some ⟨k,0,none⟩→¬ k=x:=fun k hk=>by
 obtain ⟨_,cur,hh⟩:=own_has h k 0 hk
 exact typ_ne hh hx ht
theorem StmAt.keepT {mb:MB} {g:Geo} {bks:List (Nat×Nat)} {base:Nat} {dp:Option Addr} {dc:Nat} {ss:SS} {xa xb:List Int} (h:StmAt w mb g bks base dp dc ss xa xb) {x:Nat} {cs:Array Value} {t:TypeId} {f:Nat×Nat} (hx:Has w x (.cells cs t f)) (k:Keep (fun k=>k=x) w w')
  (h1:t≠5) (h2:t≠209) (h3:t≠214) (h4:t≠220) (h5:t≠260) (h6:t≠111):StmAt w' mb g bks base dp dc ss xa xb:=by
 obtain ⟨pa,la,ca,pb,lb,cb,ha,hb,hne⟩:=h.mems.rams
 refine ⟨h.set.keep k fun i hi e=>h.set.typ hx h2 h4 h5 (e ▸ hi),h.disks.keep k (own_ne h.disks hx h6.symm),⟨k.has (show Has w _ _ from h.mems.main) (typ_ne (show Has w _ _ from h.mems.main) hx h2.symm),⟨pa,la,ca,pb,lb,cb,⟨k.has ha.cells (typ_ne ha.cells hx h3.symm),ha.row.keep k (own_ne ha.row hx h1.symm)⟩,⟨k.has hb.cells (typ_ne hb.cells hx h3.symm),hb.row.keep k (own_ne hb.row hx h1.symm)⟩,hne⟩,h.mems.ne,h.mems.fit,h.mems.form,Nat.le_trans h.mems.low k.size⟩⟩
theorem ArC.keep0 (h:ArC w q lk pp s) (k:Keep (fun _=>False) w w'):ArC w' q lk pp s :=
 ⟨k.has h.cells (by simp),h.stm.keep0 k,k.has (show Has w _ _ from h.desk) (by simp),h.marks.keep k (by simp)⟩
theorem ArC.put (h:ArC w q lk pp s) {lk':Int} {pp':Option Addr} {s':AS} (h1:s'.ss=s.ss) (h2:s'.ps.xa=s.ps.xa∧s'.ps.xb=s.ps.xb) (h3:s'.d=s.d) (h4:s'.marks=s.marks) :
  ArC (w.upd q.a (.cells (arCp q lk' pp' s') 143 (0,0))) q lk' pp' s':=by
 have k:Keep (fun k=>k=q.a) w (w.upd q.a (.cells (arCp q lk' pp' s') 143 (0,0))):=Keep.one _ _ _
 refine ⟨h.cells.upd_same _,?_,?_,?_⟩
 ·rw [h1,h2.1,h2.2]
  exact h.stm.keepT h.cells k (by decide) (by decide) (by decide) (by decide) (by decide) (by decide)
 ·rw [h3];exact k.has (show Has w _ _ from h.desk) (typ_ne (show Has w _ _ from h.desk) h.cells (by decide))
 ·rw [h4];exact h.marks.keep k (own_ne h.marks h.cells (by decide))
theorem ArC.ofStm (h:ArC w q lk pp s) {s':SS} {xa xb:List Int} (hs:StmAt w' q.mb q.g q.bks q.pb.base q.sp q.sc s' xa xb) (k:Keep (WFoot q.mb q.g q.bks w) w w'):ArC w' q lk pp { s with ds:=s'.ds,ps:={ s.ps with pw:=s'.pw,xa:=xa,xb:=xb } }:=by
 refine ⟨WFoot.has h.stm k h.cells (by decide) (by decide) (by decide) (by decide) (by decide),hs,WFoot.has h.stm k (show Has w _ _ from h.desk) (by decide) (by decide) (by decide) (by decide) (by decide),h.marks.keep k fun b hb=>?_⟩
 obtain ⟨_,cur,hh⟩:=own_has h.marks b 0 hb
 exact WFoot.not h.stm hh (by decide) (by decide) (by decide) (by decide) (by decide)
theorem ArC.ofMems (h:ArC w q lk pp s) {ms:MS} (hm:MemsAt w' q.mb ms) (k:Keep (MFoot q.mb w) w w'):ArC w' q lk pp { s with ps:={ s.ps with pw:=ms.pw,xa:=ms.xa,xb:=ms.xb } } :=
 h.ofStm (h.stm.ofMems hm k) (WFoot.ofM k)
theorem ArC.ofSet (h:ArC w q lk pp s) {s':SS} (hs:SetAt w' q.sb s') (k:Keep (SFoot q.sb) w w'):ArC w' q lk pp { s with ds:=s'.ds,ps:={ s.ps with pw:=s'.pw } } :=
 h.ofStm (h.stm.ofSet hs k) (WFoot.ofS k)
theorem ArC.ofDesk (h:ArC w q lk pp s) {d':Dk} (hd:DkAt w' q.dk d') (k:Keep (fun k=>k=q.dk) w w'):ArC w' q lk pp { s with d:=d' }:=by
 have hk:Has w q.dk _:=h.desk
 exact ⟨k.has h.cells (typ_ne h.cells hk (by decide)),h.stm.keepT hk k (by decide) (by decide) (by decide) (by decide) (by decide) (by decide),hd,h.marks.keep k (own_ne h.marks hk (by decide))⟩
def ArS (q:AB) (w:World) (k:Nat):Prop:=ArF q w k∨k=q.dk
theorem ArS.trans {w1 w2:World} (h:Keep (ArS q w) w w1) (k:Keep (ArS q w1) w1 w2):Keep (ArS q w) w w2 :=
 h.trans' k fun i hi hf=>Classical.byContradiction fun hn=>by
  rcases hf with (e | e | e | e | e | e | e | ⟨hb,cs,hc⟩) | e
  ·exact hn (Or.inl (Or.inl e))
  ·exact hn (Or.inl (Or.inr (Or.inl e)))
  ·exact hn (Or.inl (Or.inr (Or.inr (Or.inl e))))
  ·exact hn (Or.inl (Or.inr (Or.inr (Or.inr (Or.inl e)))))
  ·exact hn (Or.inl (Or.inr (Or.inr (Or.inr (Or.inr (Or.inl e))))))
  ·exact hn (Or.inl (Or.inr (Or.inr (Or.inr (Or.inr (Or.inr (Or.inl e)))))))
  ·exact hn (Or.inl (Or.inr (Or.inr (Or.inr (Or.inr (Or.inr (Or.inr (Or.inl e))))))))
  ·exact hn (Or.inl (Or.inr (Or.inr (Or.inr (Or.inr (Or.inr (Or.inr (Or.inr ⟨hb,cs,(h.block i hi hn).symm.trans hc⟩))))))))
  ·exact hn (Or.inr e)
theorem ArS.none (h:Keep (fun _=>False) w w'):Keep (ArS q w) w w':=h.mono fun _ h=>h.elim
theorem ArS.ofA (h:Keep (fun k=>k=q.a) w w'):Keep (ArS q w) w w':=h.mono fun _ h=>Or.inl (Or.inl h)
theorem ArS.ofW (h:Keep (WFoot q.mb q.g q.bks w) w w'):Keep (ArS q w) w w':=h.mono fun _ h=>Or.inl (WFoot.arF h)
theorem ArS.ofM (h:Keep (MFoot q.mb w) w w'):Keep (ArS q w) w w':=ArS.ofW (WFoot.ofM h)
theorem ArS.ofS (h:Keep (SFoot q.sb) w w'):Keep (ArS q w) w w':=ArS.ofW (WFoot.ofS h)
theorem ArS.low {n:Nat} (h:ArFrom q n) {k:Nat} (hk:ArS q w k):n≤k:=by
 rcases hk with e | e
 ·exact ArF.low h e
 ·have:=h.dk;omega
theorem ArS.notC (h:ArC w q lk pp s) {k:Nat} {cs:Array Value} {t:TypeId} {f:Nat×Nat} (hk:Has w k (.cells cs t f)) (hp:k≠q.pb.p) (hm:k≠q.pb.mp) (h1:t≠5) (h2:t≠209) (h3:t≠214) (h4:t≠220) (h5:t≠260) (h7:t≠143) (h8:t≠229):¬ ArS q w k:=by
 rintro ((e | e | e | e | e | e | e | e) | e)
 ·exact typ_ne hk h.cells h7 e
 ·exact h.stm.set.typ hk h2 h4 h5 e
 ·exact hp e
 ·exact hm e
 ·exact MFoot.not hk h.stm.mems h1 h2 h3 (Or.inl e)
 ·exact MFoot.not hk h.stm.mems h1 h2 h3 (Or.inr (Or.inl e))
 ·exact MFoot.not hk h.stm.mems h1 h2 h3 (Or.inr (Or.inr (Or.inl e)))
 ·exact MFoot.not hk h.stm.mems h1 h2 h3 (Or.inr (Or.inr (Or.inr e)))
 ·exact typ_ne hk (show Has w _ _ from h.desk) h8 e
theorem ArP.keep0 (h:ArP w q lk pp s) (k:Keep (fun _=>False) w w'):ArP w' q lk pp s :=
 ⟨k.has h.cells (by simp),h.set.keep0 k,h.disks.keep k (by simp),h.pair.keep k,k.has (show Has w _ _ from h.desk) (by simp),h.marks.keep k (by simp)⟩
theorem ArP.share (h:ArP w q lk pp s) {i:Nat} (hp:PFoot q.pb w i) (hs:SFoot q.sb i):i=q.pb.m:=by
 obtain ⟨_,_,_,_,_,_,ha,hb,_⟩:=h.pair.rams
 rcases hp with e | e | e | e | e | ⟨_,cs,hc⟩
 ·subst e;exact absurd hs (h.set.typ h.pair.cells (by decide) (by decide) (by decide))
 ·subst e
  obtain ⟨cs,t,hc⟩:=h.set.blk hs
  obtain ⟨_,arr,clk,hm,_⟩:=h.pair.cache
  have:=hc.inj hm
  cases this
 ·exact e
 ·subst e;exact absurd hs (h.set.typ ha.cells (by decide) (by decide) (by decide))
 ·subst e;exact absurd hs (h.set.typ hb.cells (by decide) (by decide) (by decide))
 ·exact absurd hs (h.set.typ hc (by decide) (by decide) (by decide))
theorem ArP.ofPair (h:ArP w q lk pp s) {p:PS} (hp:PairAt w' q.pb p) (k:Keep (PFoot q.pb w) w w'):ArP w' q lk pp { s with ps:=p } :=
 ⟨PFoot.has k h.cells (by decide) h.pair (by decide) (by decide) (by decide),h.set.pow k (fun i hs hf=>h.share hf hs) hp.main,
  PFoot.own k h.disks (by decide) h.pair (by decide) (by decide) (by decide),hp,PFoot.has k (show Has w _ _ from h.desk) (by decide) h.pair (by decide) (by decide) (by decide),
  PFoot.own k h.marks (by decide) h.pair (by decide) (by decide) (by decide)⟩
theorem ArP.put (h:ArP w q lk pp s) {lk':Int} {pp':Option Addr} {s':AS} (h1:s'.ss=s.ss) (h2:s'.ps=s.ps) (h3:s'.d=s.d) (h4:s'.marks=s.marks) :
  ArP (w.upd q.a (.cells (arCp q lk' pp' s') 143 (0,0))) q lk' pp' s':=by
 have k:Keep (fun k=>k=q.a) w (w.upd q.a (.cells (arCp q lk' pp' s') 143 (0,0))):=Keep.one _ _ _
 have ne:∀ {i:Nat} {cs:Array Value} {t:TypeId},Has w i (.cells cs t (0,0))→t≠143→¬ i=q.a:=fun hi ht=>typ_ne hi h.cells ht
 refine ⟨h.cells.upd_same _,by rw [h1];exact h.set.keep k fun i hi e=>h.set.typ h.cells (by decide) (by decide) (by decide) (e ▸ hi),h.disks.keep k (own_ne h.disks h.cells (by decide)),by rw [h2];exact h.pair.keepS k (fun i hi e=>PFoot.not h.cells (by decide) h.pair (by decide) (by decide) (by decide) (e ▸ hi)) (ne h.pair.cache.1 (by decide)),by rw [h3];exact k.has (show Has w _ _ from h.desk) (ne h.desk (by decide)),?_⟩
 rw [h4]
 exact h.marks.keep k (own_ne h.marks h.cells (by decide))
end plain
section calls
variable {w:World} {q:AB} {lk:Int} {pp:Option Addr} {s:AS} {R:Value→World→Prop}
theorem arc_lock (h:ArC w q 0 pp s) (hK:∀ w',ArC w' q 1 pp s→Keep (fun k=>k=q.a) w w'→R (.tuple #[]) w'):zB Tryz.prog 75 #[.pointer (some ⟨q.a,0,none⟩)] w R :=
 mu_lock Tryz.muLib h.cells rfl (hK _ (h.put (lk':=1) (pp':=pp) (s':=s) rfl ⟨rfl,rfl⟩ rfl rfl) (Keep.one _ _ _))
theorem arc_unlock (h:ArC w q 1 pp s) {K:World→Prop} (hK:∀ w',ArC w' q 0 pp s→Keep (fun k=>k=q.a) w w'→K w'):CallDV Tryz.prog 76 #[.pointer (some ⟨q.a,0,none⟩)] w K :=
 mu_unlock Tryz.muLib h.cells rfl (hK _ (h.put (lk':=0) (pp':=pp) (s':=s) rfl ⟨rfl,rfl⟩ rfl rfl) (Keep.one _ _ _))
end calls
end Go.Proofs
