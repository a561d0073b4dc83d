import Derived.Test.YthhimblbnnafkaaGreatTm5
set_option linter.unusedSimpArgs false
set_option linter.unusedVariables false
namespace Go.Proofs
open Go Go.Ev
set_option maxRecDepth 100000
def bst (x:Int) (o:Option Rec) (r:Rec):Option Rec :=
 if r.kind=1∧r.lba=x then (match o with
  | none=>some r
  | some q=>if q.ver<r.ver then some r else some q) else o
def cst (x:Int) (o:Option Int) (r:Rec):Option Int :=
 if r.kind=2∧r.lba=x then (match o with
  | none=>some r.ver
  | some v=>if v<r.ver then some r.ver else some v) else o
theorem look1_step (s:Sta) (r:Rec) (x:Int):mlook (stepD s r).1 x=bst x (mlook s.1 x) r:=by
 unfold stepD bst
 by_cases h2:r.kind=2
 ·rw [if_pos h2,if_neg (fun h=>by omega)]
 ·rw [if_neg h2]
  by_cases h1:r.kind=1
  ·rw [if_pos h1]
   by_cases hx:r.lba=x
   ·subst hx
    rw [if_pos ⟨h1,rfl⟩]
    simp only
    cases hl:mlook s.1 r.lba with
    | none=>simp [look_ins]
    | some q =>
     simp only
     split
     ·simp [look_ins]
     ·exact hl
   ·rw [if_neg (fun h=>hx h.2)]
    simp only
    cases hl:mlook s.1 r.lba with
    | none=>simp only [look_ins];rw [if_neg (fun e=>hx e.symm)]
    | some q =>
     simp only
     split
     ·rw [look_ins,if_neg (fun e=>hx e.symm)]
     ·rfl
  ·rw [if_neg h1,if_neg (fun h=>h1 h.1)]
theorem look2_step (s:Sta) (r:Rec) (x:Int):mlook (stepD s r).2 x=cst x (mlook s.2 x) r:=by
 unfold stepD cst
 by_cases h2:r.kind=2
 ·rw [if_pos h2]
  by_cases hx:r.lba=x
  ·subst hx
   rw [if_pos ⟨h2,rfl⟩]
   simp only
   cases hl:mlook s.2 r.lba with
   | none=>simp [look_ins]
   | some q =>
    simp only
    split
    ·simp [look_ins]
    ·exact hl
  ·rw [if_neg (fun h=>hx h.2)]
   simp only
   cases hl:mlook s.2 r.lba with
   | none=>simp only [look_ins];rw [if_neg (fun e=>hx e.symm)]
   | some q =>
    simp only
    split
    ·rw [look_ins,if_neg (fun e=>hx e.symm)]
    ·rfl
 ·have e2:¬ (r.kind=2∧r.lba=x):=fun h=>h2 h.1
  rw [if_neg h2,if_neg e2]
  split <;> rfl
def bestOf (all:List Rec) (x:Int):Option Rec:=all.foldl (bst x) none
def clnOf (all:List Rec) (x:Int):Option Int:=all.foldl (cst x) none
theorem look1_fold (all:List Rec) (s:Sta) (x:Int):mlook (all.foldl stepD s).1 x=all.foldl (bst x) (mlook s.1 x):=by
 induction all generalizing s with
 | nil=>rfl
 | cons r all ih=>rw [List.foldl_cons,ih,look1_step,List.foldl_cons]
theorem look2_fold (all:List Rec) (s:Sta) (x:Int):mlook (all.foldl stepD s).2 x=all.foldl (cst x) (mlook s.2 x):=by
 induction all generalizing s with
 | nil=>rfl
 | cons r all ih=>rw [List.foldl_cons,ih,look2_step,List.foldl_cons]
theorem look1_all (all:List Rec) (x:Int):mlook (all.foldl stepD ([],[])).1 x=bestOf all x:=look1_fold all _ x
theorem look2_all (all:List Rec) (x:Int):mlook (all.foldl stepD ([],[])).2 x=clnOf all x:=look2_fold all _ x
theorem nodup_step {s:Sta} (h:(s.1.map (·.1)).Nodup) (r:Rec):((stepD s r).1.map (·.1)).Nodup:=by
 unfold stepD
 split
 ·exact h
 ·split
  ·simp only
   cases mlook s.1 r.lba with
   | none=>exact keys_nodup_ins h _ _
   | some q =>
    simp only
    split
    ·exact keys_nodup_ins h _ _
    ·exact h
  ·exact h
theorem nodup_all (all:List Rec):((all.foldl stepD ([],[])).1.map (·.1)).Nodup:=by
 have:∀ (s:Sta),(s.1.map (·.1)).Nodup→((all.foldl stepD s).1.map (·.1)).Nodup:=by
  induction all with
  | nil=>exact fun s h=>h
  | cons r all ih=>exact fun s h=>ih _ (nodup_step h r)
 exact this _ (by simp)
def Bst (all:List Rec) (r:Rec):Prop:=∃ i:Nat,all[i]? = some r∧r.kind=1∧∀ (j:Nat) (q:Rec),all[j]? = some q→q.kind=1→q.lba=r.lba→q.ver≤r.ver∧(q.ver=r.ver→i≤j)
def Cln (all:List Rec) (r:Rec):Prop:=∃ q∈all,q.kind=2∧q.lba=r.lba∧r.ver≤q.ver
theorem Bst.one {all:List Rec} {r s:Rec} (h:Bst all r) (k:Bst all s) (hl:r.lba=s.lba):r=s:=by
 obtain ⟨i,hi,h1,h2⟩:=h
 obtain ⟨j,hj,k1,k2⟩:=k
 have a:=h2 j s hj k1 hl.symm
 have b:=k2 i r hi h1 hl
 have:i=j:=by
  have hv:s.ver=r.ver:=by omega
  have:=a.2 hv
  have:=b.2 hv.symm
  omega
 subst this
 rw [hi] at hj
 exact Option.some.inj hj
theorem get_append_one (all:List Rec) (r:Rec) (j:Nat) (q:Rec):(all++[r])[j]? = some q ↔ all[j]? = some q∨(j=all.length∧q=r):=by
 by_cases hj:j<all.length
 ·rw [List.getElem?_append_left hj]
  exact ⟨Or.inl,fun h=>by rcases h with h | ⟨h,_⟩;exact h;omega⟩
 ·rw [List.getElem?_append_right (by omega),List.getElem?_eq_none (show all.length≤j by omega)]
  by_cases he:j=all.length
  ·subst he;simp [eq_comm]
  ·rw [List.getElem?_eq_none (by simp;omega)];simp [he]
theorem best_spec (x:Int) (l:List Rec):∀ all:List Rec,l=all.reverse→(match bestOf all x with
  | none=>∀ q:Rec,q∈all→¬ (q.kind=1∧q.lba=x)
  | some r=>r.lba=x∧Bst all r):=by
 induction l with
 | nil =>
  intro (all:List Rec) h
  have:all=[]:=by simpa using h.symm
  subst this
  simp [bestOf]
 | cons r l ih =>
  intro all h
  have hall:all=l.reverse++[r]:=by rw [← List.reverse_reverse all,← h];simp
  have h0:=ih l.reverse (by simp)
  have hb:bestOf all x=bst x (bestOf l.reverse x) r:=by rw [hall];unfold bestOf;rw [List.foldl_append];rfl
  generalize l.reverse=pre at *
  rw [hb]
  have up:∀ q,Bst pre q→q.lba=x→(r.kind=1∧r.lba=x→r.ver≤q.ver)→Bst all q:=by
   rintro q ⟨i,hi,h1,h2⟩ hx hr
   have hlt:=(List.getElem?_eq_some_iff.1 hi).1
   refine ⟨i,by rw [hall];exact (get_append_one _ _ _ _).2 (Or.inl hi),h1,fun j q' hj hk hl=>?_⟩
   rw [hall] at hj
   rcases (get_append_one _ _ _ _).1 hj with hj | ⟨rfl,rfl⟩
   ·exact h2 j q' hj hk hl
   ·exact ⟨hr ⟨hk,hl.trans hx⟩,fun _=>by omega⟩
  have new:r.kind=1→(∀ q∈pre,q.kind=1→q.lba=r.lba→q.ver<r.ver)→Bst all r:=by
   intro h1 hno
   refine ⟨pre.length,by rw [hall];exact (get_append_one _ _ _ _).2 (Or.inr ⟨rfl,rfl⟩),h1,fun j q hj hk hl=>?_⟩
   rw [hall] at hj
   rcases (get_append_one _ _ _ _).1 hj with hj | ⟨rfl,rfl⟩
   ·have:=hno q (List.mem_of_getElem? hj) hk hl
    exact ⟨by omega,fun e=>by omega⟩
   ·exact ⟨by omega,fun _=>by omega⟩
  unfold bst
  by_cases hr:r.kind=1∧r.lba=x
  ·rw [if_pos hr]
   cases ho:bestOf pre x with
   | none =>
    rw [ho] at h0
    exact ⟨hr.2,new hr.1 fun q hq hk hl=>absurd ⟨hk,hl.trans hr.2⟩ (h0 q hq)⟩
   | some q =>
    rw [ho] at h0
    simp only at h0 ⊢
    by_cases hv:q.ver<r.ver
    ·rw [if_pos hv]
     refine ⟨hr.2,new hr.1 fun q' hq hk hl=>?_⟩
     obtain ⟨i,hi,h1,h2⟩:=h0.2
     obtain ⟨j,hj⟩:=List.getElem?_of_mem hq
     have:=(h2 j q' hj hk (by rw [hl,hr.2,h0.1])).1
     omega
    ·rw [if_neg hv]
     exact ⟨h0.1,up q h0.2 h0.1 fun _=>by omega⟩
  ·rw [if_neg hr]
   cases ho:bestOf pre x with
   | none =>
    rw [ho] at h0
    intro q hq
    rw [hall] at hq
    rcases List.mem_append.1 hq with hq | hq
    ·exact h0 q hq
    ·have:q=r:=by simpa using hq
     rw [this];exact hr
   | some q =>
    rw [ho] at h0
    exact ⟨h0.1,up q h0.2 h0.1 fun h=>absurd h hr⟩
theorem best_iff (all:List Rec) (r:Rec):bestOf all r.lba=some r ↔ Bst all r:=by
 have h:=best_spec r.lba all.reverse all rfl
 constructor
 ·intro e;rw [e] at h;exact h.2
 ·intro hb
  cases ho:bestOf all r.lba with
  | none =>
   rw [ho] at h
   obtain ⟨i,hi,h1,_⟩:=hb
   exact absurd ⟨h1,rfl⟩ (h r (List.mem_of_getElem? hi))
  | some q =>
   rw [ho] at h
   rw [hb.one h.2 h.1.symm]
theorem cln_spec (x v:Int):∀ (all:List Rec) (o:Option Int),(∃ u,all.foldl (cst x) o=some u∧v≤u) ↔ (∃ u,o=some u∧v≤u)∨∃ q∈all,q.kind=2∧q.lba=x∧v≤q.ver
 | [],o=>by simp
 | r::all,o=>by
  rw [List.foldl_cons,cln_spec x v all]
  have h:(∃ u,cst x o r=some u∧v≤u) ↔ (∃ u,o=some u∧v≤u)∨(r.kind=2∧r.lba=x∧v≤r.ver):=by
   unfold cst
   by_cases hr:r.kind=2∧r.lba=x
   ·rw [if_pos hr]
    cases o with
    | none=>simp [hr]
    | some u =>
     simp only [Option.some.injEq,exists_eq_left',hr,true_and]
     split <;> simp <;> omega
   ·rw [if_neg hr]
    constructor
    ·exact Or.inl
    ·rintro (h | h)
     ·exact h
     ·exact absurd ⟨h.1,h.2.1⟩ hr
  rw [h]
  simp only [List.mem_cons,exists_eq_or_imp]
  exact or_assoc
theorem kept_iff (all:List Rec) (r:Rec):keptB (all.foldl stepD ([],[])).2 (r.lba,r)=true ↔ ¬ Cln all r:=by
 have h:=cln_spec r.lba r.ver all none
 unfold keptB
 rw [look2_all]
 simp only [reduceCtorEq,false_and,exists_false,false_or] at h
 unfold Cln
 rw [← h]
 unfold clnOf
 cases all.foldl (cst r.lba) none with
 | none=>simp
 | some u=>simp
theorem left_mem (all:List Rec) (r:Rec):r∈leftD (all.foldl stepD ([],[])) ↔ Bst all r∧¬ Cln all r:=by
 unfold leftD
 simp only [List.mem_map,List.mem_filter]
 have hn:=nodup_all all
 have key:∀ x q,(x,q)∈(all.foldl stepD ([],[])).1→q.lba=x∧Bst all q:=by
  intro x q h
  have h1:=mem_mlook hn h
  rw [look1_all] at h1
  have h2:=best_spec x all.reverse all rfl
  rw [h1] at h2
  exact h2
 constructor
 ·rintro ⟨⟨x,q⟩,⟨hm,hk⟩,rfl⟩
  obtain ⟨rfl,hb⟩:=key x q hm
  exact ⟨hb,(kept_iff all q).1 hk⟩
 ·rintro ⟨hb,hc⟩
  refine ⟨(r.lba,r),⟨mlook_mem ?_,(kept_iff all r).2 hc⟩,rfl⟩
  rw [look1_all]
  exact (best_iff all r).2 hb
theorem left_lbas (all:List Rec):((leftD (all.foldl stepD ([],[]))).map (·.lba)).Nodup:=by
 have hn:=nodup_all all
 unfold leftD
 rw [List.map_map]
 have:((all.foldl stepD ([],[])).1.filter (keptB (all.foldl stepD ([],[])).2)).map ((·.lba) ∘ (·.2))=((all.foldl stepD ([],[])).1.filter (keptB (all.foldl stepD ([],[])).2)).map (·.1):=by
  apply List.map_congr_left
  rintro ⟨x,q⟩ hm
  have h1:=mem_mlook hn (List.mem_filter.1 hm).1
  rw [look1_all] at h1
  have h2:=best_spec x all.reverse all rfl
  rw [h1] at h2
  exact h2.1
 rw [this]
 exact hn.sublist (List.Sublist.map _ List.filter_sublist)
theorem nodup_of_lbas {rs:List Rec} (h:(rs.map (·.lba)).Nodup):rs.Nodup:=by
 unfold List.Nodup at *
 rw [List.pairwise_map] at h
 exact h.imp fun {a b} hab e=>hab (by rw [e])
theorem perm_of_mem {rs ss:List Rec} (hr:(rs.map (·.lba)).Nodup) (hs:(ss.map (·.lba)).Nodup) (h:∀ r,r∈rs ↔ r∈ss):rs.Perm ss :=
 (List.perm_ext_iff_of_nodup (nodup_of_lbas hr) (nodup_of_lbas hs)).2 h
structure MemOk (L:List Rec) (es:List (Int×Ent)) (last:Int):Prop where
 rc:∀ r∈L,RcOk r
 uq:∀ r∈L,∀ s∈L,r.kind=1→s.kind=1→r.lba=s.lba→r.ver=s.ver→r=s
 ver:∀ r∈L,r.kind≠6→r.ver≤last
 has:∀ l e,mlook es l=some e→recOf (l,e)∈L∧(∀ q∈L,q.kind=1→q.lba=l→q.ver≤e.2)∧(∀ q∈L,q.kind=2→q.lba=l→q.ver<e.2)
 non:∀ r∈L,r.kind=1→mlook es r.lba=none→∃ q∈L,q.kind=2∧q.lba=r.lba∧r.ver≤q.ver
 done:∀ r∈L,r.kind=4→∃ x∈L,x.kind=5∧x.ver=r.ver
theorem MemOk.nil (last:Int):MemOk [] [] last:=⟨by simp,by simp,by simp,(fun l e h=>by cases h),by simp,by simp⟩
theorem MemOk.look {L:List Rec} {es es':List (Int×Ent)} {last last':Int} (h:MemOk L es last) (he:∀ l,mlook es' l=mlook es l) (hl:∀ r∈L,r.kind≠6→r.ver≤last'):MemOk L es' last' :=
 ⟨h.rc,h.uq,hl,fun l e hm=>h.has l e (by rw [← he];exact hm),fun r hr hk hm=>h.non r hr hk (by rw [← he];exact hm),h.done⟩
theorem MemOk.put {L:List Rec} {es:List (Int×Ent)} {last lba:Int} {d:Sec} (h:MemOk L es last) (hr:RcOk ⟨1,last+1,lba,d⟩):MemOk (L++[⟨1,last+1,lba,d⟩]) (ins es lba (d,last+1)) (last+1):=by
 have hv:∀ r∈L,r.kind=1→r.ver≤last:=fun r hr hk=>h.ver r hr (by omega)
 refine ⟨fun r hm=>?_,fun r hm s hm2 hk hk2 hl hve=>?_,fun r hm hk=>?_,fun l e hm=>?_,fun r hm hk hn=>?_,fun r hm hk=>?_⟩
 ·rcases List.mem_append.1 hm with hm | hm
  ·exact h.rc r hm
  ·rw [List.mem_singleton.1 hm];exact hr
 ·rcases List.mem_append.1 hm with hm | hm <;> rcases List.mem_append.1 hm2 with hm2 | hm2
  ·exact h.uq r hm s hm2 hk hk2 hl hve
  ·have:=hv r hm hk
   rw [List.mem_singleton.1 hm2] at hve
   have hve:r.ver=last+1:=hve
   omega
  ·have:=hv s hm2 hk2
   rw [List.mem_singleton.1 hm] at hve
   have hve:last+1=s.ver:=hve
   omega
  ·rw [List.mem_singleton.1 hm,List.mem_singleton.1 hm2]
 ·rcases List.mem_append.1 hm with hm | hm
  ·have:=h.ver r hm hk;omega
  ·rw [List.mem_singleton.1 hm];exact Int.le_refl _
 ·rw [look_ins] at hm
  by_cases he:l=lba
  ·rw [if_pos he] at hm
   cases hm
   subst he
   refine ⟨List.mem_append.2 (Or.inr (List.mem_singleton.2 rfl)),fun q hq hk hl=>?_,fun q hq hk hl=>?_⟩
   ·rcases List.mem_append.1 hq with hq | hq
    ·have:=hv q hq hk
     show q.ver≤last+1
     omega
    ·rw [List.mem_singleton.1 hq];exact Int.le_refl _
   ·rcases List.mem_append.1 hq with hq | hq
    ·have:=h.ver q hq (by omega)
     show q.ver<last+1
     omega
    ·rw [List.mem_singleton.1 hq] at hk
     exact absurd (show (1:Int)=2 from hk) (by decide)
  ·rw [if_neg he] at hm
   obtain ⟨h1,h2,h3⟩:=h.has l e hm
   refine ⟨List.mem_append.2 (Or.inl h1),fun q hq hk hl=>?_,fun q hq hk hl=>?_⟩
   ·rcases List.mem_append.1 hq with hq | hq
    ·exact h2 q hq hk hl
    ·rw [List.mem_singleton.1 hq] at hl
     exact absurd (show lba=l from hl).symm he
   ·rcases List.mem_append.1 hq with hq | hq
    ·exact h3 q hq hk hl
    ·rw [List.mem_singleton.1 hq] at hl
     exact absurd (show lba=l from hl).symm he
 ·rw [look_ins] at hn
  split at hn
  ·cases hn
  ·rename_i hne
   rcases List.mem_append.1 hm with hm | hm
   ·obtain ⟨q,q1,q2⟩:=h.non r hm hk hn
    exact ⟨q,List.mem_append.2 (Or.inl q1),q2⟩
   ·rw [List.mem_singleton.1 hm] at hne
    exact absurd rfl hne
 ·rcases List.mem_append.1 hm with hm | hm
  ·obtain ⟨q,q1,q2⟩:=h.done r hm hk
   exact ⟨q,List.mem_append.2 (Or.inl q1),q2⟩
  ·rw [List.mem_singleton.1 hm] at hk
   exact absurd (show (1:Int)=4 from hk) (by decide)
theorem MemOk.more {L X:List Rec} {es:List (Int×Ent)} {last last':Int} (h:MemOk L es last) (hl:last≤last') (hX:∀ r∈X,RcOk r∧3≤r.kind∧(r.kind≠6→r.ver≤last')) (hd:∀ r∈X,r.kind=4→∃ x∈L++X,x.kind=5∧x.ver=r.ver):MemOk (L++X) es last':=by
 have inL:∀ r∈L++X,r.kind=1∨r.kind=2→r∈L:=fun r hm hk=>by
  rcases List.mem_append.1 hm with hm | hm
  ·exact hm
  ·have:=(hX r hm).2.1;omega
 refine ⟨fun r hm=>?_,fun r hm s hm2 hk hk2 hl hve=>h.uq r (inL r hm (Or.inl hk)) s (inL s hm2 (Or.inl hk2)) hk hk2 hl hve,fun r hm hk=>?_,fun l e hm=>?_,fun r hm hk hn=>?_,fun r hm hk=>?_⟩
 ·rcases List.mem_append.1 hm with hm | hm
  ·exact h.rc r hm
  ·exact (hX r hm).1
 ·rcases List.mem_append.1 hm with hm | hm
  ·have:=h.ver r hm hk;omega
  ·exact (hX r hm).2.2 hk
 ·obtain ⟨h1,h2,h3⟩:=h.has l e hm
  exact ⟨List.mem_append.2 (Or.inl h1),fun q hq hk hl=>h2 q (inL q hq (Or.inl hk)) hk hl,fun q hq hk hl=>h3 q (inL q hq (Or.inr hk)) hk hl⟩
 ·obtain ⟨q,q1,q2⟩:=h.non r (inL r hm (Or.inl hk)) hk hn
  exact ⟨q,List.mem_append.2 (Or.inl q1),q2⟩
 ·rcases List.mem_append.1 hm with hm | hm
  ·obtain ⟨q,q1,q2⟩:=h.done r hm hk
   exact ⟨q,List.mem_append.2 (Or.inl q1),q2⟩
  ·exact hd r hm hk
theorem recsW_kind {v:Int} {P:List PutS}:∀ r∈recsW v P,3≤r.kind∧r.kind≤5∧r.ver=v:=fun r hr=>by
 unfold recsW recsI at hr
 rcases List.mem_append.1 hr with hr | hr
 ·rcases List.mem_append.1 hr with hr | hr
  ·obtain ⟨x,_,rfl⟩:=List.mem_map.1 hr
   exact ⟨by show (3:Int)≤3;decide,by show (3:Int)≤5;decide,rfl⟩
  ·rw [List.mem_singleton.1 hr]
   exact ⟨by show (3:Int)≤4;decide,by show (4:Int)≤5;decide,rfl⟩
 ·rw [List.mem_singleton.1 hr]
  exact ⟨by show (3:Int)≤5;decide,by show (5:Int)≤5;decide,rfl⟩
theorem MemOk.write {L:List Rec} {es:List (Int×Ent)} {last:Int} (h:MemOk L es last) {P:List PutS} (hr:∀ r∈recsW (last+1) P,RcOk r):MemOk (L++recsW (last+1) P) es (last+1):=by
 refine h.more (by omega) (fun r hm=>⟨hr r hm,(recsW_kind r hm).1,fun _=>by rw [(recsW_kind r hm).2.2];exact Int.le_refl _⟩) fun r hm hk=>?_
 refine ⟨recK 5 (last+1),List.mem_append.2 (Or.inr ?_),rfl,(recsW_kind r hm).2.2.symm⟩
 unfold recsW
 exact List.mem_append.2 (Or.inr (List.mem_singleton.2 rfl))
theorem MemOk.epoch {L:List Rec} {es:List (Int×Ent)} {last e:Int} (h:MemOk L es last) (hr:RcOk ⟨6,e,0,sec []⟩):MemOk (L++[⟨6,e,0,sec []⟩]) es last:=by
 refine h.more (Int.le_refl _) (fun r hm=>?_) fun r hm hk=>?_
 ·rw [List.mem_singleton.1 hm]
  exact ⟨hr,by show (3:Int)≤6;decide,fun hk=>absurd rfl hk⟩
 ·rw [List.mem_singleton.1 hm] at hk
  exact absurd (show (6:Int)=4 from hk) (by decide)
theorem MemOk.clean {L:List Rec} {es:List (Int×Ent)} {last lba:Int} {e:Ent} (h:MemOk L es last) (hm:mlook es lba=some e) (hr:RcOk ⟨2,e.2,lba,sec []⟩):MemOk (L++[⟨2,e.2,lba,sec []⟩]) (del es lba) last:=by
 obtain ⟨g1,g2,g3⟩:=h.has lba e hm
 have inL:∀ r∈L++[(⟨2,e.2,lba,sec []⟩:Rec)],r.kind≠2→r∈L:=fun r hm hk=>by
  rcases List.mem_append.1 hm with hm | hm
  ·exact hm
  ·rw [List.mem_singleton.1 hm] at hk
   exact absurd rfl hk
 refine ⟨fun r hm=>?_,fun r hm s hm2 hk hk2 hl hve=>h.uq r (inL r hm (by omega)) s (inL s hm2 (by omega)) hk hk2 hl hve,fun r hm hk=>?_,fun l e' hm'=>?_,fun r hm hk hn=>?_,fun r hm hk=>?_⟩
 ·rcases List.mem_append.1 hm with hm | hm
  ·exact h.rc r hm
  ·rw [List.mem_singleton.1 hm];exact hr
 ·rcases List.mem_append.1 hm with hm | hm
  ·exact h.ver r hm hk
  ·rw [List.mem_singleton.1 hm]
   exact (h.ver (recOf (lba,e)) g1 (by show (1:Int)≠6;decide):e.2≤last)
 ·rw [look_del] at hm'
  split at hm'
  ·cases hm'
  ·rename_i hne
   obtain ⟨h1,h2,h3⟩:=h.has l e' hm'
   refine ⟨List.mem_append.2 (Or.inl h1),fun q hq hk hl=>h2 q (inL q hq (by omega)) hk hl,fun q hq hk hl=>?_⟩
   rcases List.mem_append.1 hq with hq | hq
   ·exact h3 q hq hk hl
   ·rw [List.mem_singleton.1 hq] at hl
    exact absurd (show lba=l from hl).symm hne
 ·have hrL:=inL r hm (by omega)
  rw [look_del] at hn
  by_cases he:r.lba=lba
  ·exact ⟨⟨2,e.2,lba,sec []⟩,List.mem_append.2 (Or.inr (List.mem_singleton.2 rfl)),rfl,he.symm,g2 r hrL hk he⟩
  ·rw [if_neg he] at hn
   obtain ⟨q,q1,q2⟩:=h.non r hrL hk hn
   exact ⟨q,List.mem_append.2 (Or.inl q1),q2⟩
 ·obtain ⟨q,q1,q2⟩:=h.done r (inL r hm (by omega)) hk
  exact ⟨q,List.mem_append.2 (Or.inl q1),q2⟩
theorem MemOk.short {es:List (Int×Ent)} {last ep:Int} {D:List Rec} (hD:IsD es D) (hn:(es.map (·.1)).Nodup) (hes:∀ l e,mlook es l=some e→RcOk (recOf (l,e))∧e.2≤last) (he:RcOk ⟨6,ep,0,sec []⟩):MemOk (⟨6,ep,0,sec []⟩::D) es last:=by
 have dm:∀ r,r∈D ↔ ∃ l e,mlook es l=some e∧r=recOf (l,e):=fun r=>by
  rw [hD.1.mem_iff]
  constructor
  ·intro h
   obtain ⟨p,hp,rfl⟩:=List.mem_map.1 h
   exact ⟨p.1,p.2,mem_mlook hn hp,rfl⟩
  ·rintro ⟨l,e,h,rfl⟩
   exact List.mem_map.2 ⟨(l,e),mlook_mem h,rfl⟩
 have inD:∀ r∈(⟨6,ep,0,sec []⟩:Rec)::D,r.kind≠6→r∈D:=fun r hm hk=>by
  rcases List.mem_cons.1 hm with rfl | hm
  ·exact absurd rfl hk
  ·exact hm
 have k1:∀ r∈D,r.kind=1:=fun r hr=>by
  obtain ⟨l,e,_,rfl⟩:=(dm r).1 hr
  rfl
 refine ⟨fun r hm=>?_,fun r hm s hm2 hk hk2 hl hve=>?_,fun r hm hk=>?_,fun l e hm=>⟨List.mem_cons_of_mem _ ((dm _).2 ⟨l,e,hm,rfl⟩),fun q hq hk hl=>?_,fun q hq hk hl=>?_⟩,fun r hm hk hn'=>?_,fun r hm hk=>?_⟩
 ·rcases List.mem_cons.1 hm with rfl | hm
  ·exact he
  ·obtain ⟨l,e,h,rfl⟩:=(dm r).1 hm
   exact (hes l e h).1
 ·obtain ⟨l,e,h,rfl⟩:=(dm r).1 (inD r hm (by omega))
  obtain ⟨l',e',h',rfl⟩:=(dm s).1 (inD s hm2 (by omega))
  have hl:l=l':=hl
  subst hl
  rw [h] at h'
  cases h'
  rfl
 ·obtain ⟨l,e,h,rfl⟩:=(dm r).1 (inD r hm hk)
  exact (hes l e h).2
 ·obtain ⟨l',e',h',rfl⟩:=(dm q).1 (inD q hq (by omega))
  have hl:l'=l:=hl
  subst hl
  rw [hm] at h'
  cases h'
  exact Int.le_refl _
 ·have:=k1 q (inD q hq (by omega))
  omega
 ·obtain ⟨l,e,h,rfl⟩:=(dm r).1 (inD r hm (by omega))
  have hn':mlook es l=none:=hn'
  rw [h] at hn'
  cases hn'
 ·have:=k1 r (inD r hm (by omega))
  omega
theorem left_of {LL:List (List Rec)} {es:List (Int×Ent)} {last:Int} (h:∀ L∈LL,MemOk L es last) (hne:LL≠[]) (r:Rec):r∈leftD (LL.flatten.foldl stepD ([],[])) ↔ ∃ l e,mlook es l=some e∧r=recOf (l,e):=by
 rw [left_mem]
 constructor
 ·rintro ⟨⟨i,hi,hk,hb⟩,hc⟩
  have hm:=List.mem_of_getElem? hi
  obtain ⟨L,hL,hr⟩:=List.mem_flatten.1 hm
  have hM:=h L hL
  cases hl:mlook es r.lba with
  | none =>
   obtain ⟨q,q1,q2,q3,q4⟩:=hM.non r hr hk hl
   exact absurd ⟨q,List.mem_flatten.2 ⟨L,hL,q1⟩,q2,q3,q4⟩ hc
  | some e =>
   obtain ⟨g1,g2,g3⟩:=hM.has r.lba e hl
   refine ⟨r.lba,e,hl,?_⟩
   obtain ⟨j,hj⟩:=List.getElem?_of_mem (List.mem_flatten.2 ⟨L,hL,g1⟩)
   have h1:e.2≤r.ver:=(hb j _ hj rfl rfl).1
   have h2:=g2 r hr hk rfl
   exact hM.uq r hr _ g1 hk rfl rfl (by show r.ver=e.2;omega)
 ·rintro ⟨l,e,hl,rfl⟩
  obtain ⟨L,hL⟩:=List.exists_mem_of_ne_nil LL hne
  have hm:recOf (l,e)∈LL.flatten:=List.mem_flatten.2 ⟨L,hL,((h L hL).has l e hl).1⟩
  have hle:∀ q∈LL.flatten,q.kind=1→q.lba=l→q.ver≤e.2:=fun q hq hk hql=>by
   obtain ⟨L',hL',hq'⟩:=List.mem_flatten.1 hq
   exact ((h L' hL').has l e hl).2.1 q hq' hk hql
  refine ⟨?_,?_⟩
  ·have hs:=best_spec l LL.flatten.reverse LL.flatten rfl
   cases ho:bestOf LL.flatten l with
   | none =>
    rw [ho] at hs
    exact absurd ⟨rfl,rfl⟩ (hs _ hm)
   | some r' =>
    rw [ho] at hs
    obtain ⟨hl',hB⟩:=hs
    obtain ⟨i,hi,hk',hb'⟩:=hB
    have hm':=List.mem_of_getElem? hi
    obtain ⟨L',hL',hr'⟩:=List.mem_flatten.1 hm'
    obtain ⟨j,hj⟩:=List.getElem?_of_mem hm
    have h1:e.2≤r'.ver:=(hb' j _ hj rfl hl'.symm).1
    have h2:=hle r' hm' hk' hl'
    have:r'=recOf (l,e):=(h L' hL').uq r' hr' _ ((h L' hL').has l e hl).1 hk' rfl hl' (by show r'.ver=e.2;omega)
    rw [← this]
    exact ⟨i,hi,hk',hb'⟩
  ·rintro ⟨q,hq,hk,hql,hv⟩
   obtain ⟨L',hL',hq'⟩:=List.mem_flatten.1 hq
   have:=((h L' hL').has l e hl).2.2 q hq' hk hql
   have hv:e.2≤q.ver:=hv
   omega
theorem left_isD {LL:List (List Rec)} {es:List (Int×Ent)} {last:Int} (h:∀ L∈LL,MemOk L es last) (hne:LL≠[]) (hn:(es.map (·.1)).Nodup) {rs:List Rec} (hp:rs.Perm (leftD (LL.flatten.foldl stepD ([],[])))) (hv:ByVer rs):IsD es rs:=by
 refine ⟨hp.trans (perm_of_mem (left_lbas _) ?_ fun r=>?_),hv⟩
 ·rw [List.map_map]
  exact hn
 ·rw [left_of h hne]
  constructor
  ·rintro ⟨l,e,hl,rfl⟩
   exact List.mem_map.2 ⟨(l,e),mlook_mem hl,rfl⟩
  ·intro hm
   obtain ⟨p,hp,rfl⟩:=List.mem_map.1 hm
   exact ⟨p.1,p.2,mem_mlook hn hp,rfl⟩
theorem gLists_skip {D:List Rec}:∀ (LL:List (List Rec)) (G:List (Int×List PutS)),(∀ L∈LL,∀ x∈L,x.kind=4→doneV D x.ver=true)→gLists D LL G=G
 | [],_,_=>rfl
 | L::LL,G,h=>by
  show gLists D LL (gList D [] L G)=G
  rw [gList_skip L [] fun x hx hk=>Or.inl (h L (by simp) x hx hk)]
  exact gLists_skip LL G fun L' hL'=>h L' (by simp [hL'])
theorem pend_none {LL:List (List Rec)} (h:∀ L∈LL,∀ r∈L,r.kind=4→∃ x∈L,x.kind=5∧x.ver=r.ver):pendG LL=[]:=by
 unfold pendG
 refine gLists_skip LL [] fun L hL x hx hk=>?_
 obtain ⟨y,y1,y2,y3⟩:=h L hL x hx hk
 exact doneV_mem.2 ⟨y,List.mem_flatten.2 ⟨L,hL,y1⟩,y2,y3⟩
theorem top_spec:∀ (all:List Rec) (t:Int),t≤all.foldl topStep t∧(∀ r∈all,1≤r.kind→r.kind≤5→r.ver≤all.foldl topStep t)∧∀ b,t≤b→(∀ r∈all,1≤r.kind→r.kind≤5→r.ver≤b)→all.foldl topStep t≤b
 | [],t=>⟨Int.le_refl _,by simp,fun b h _=>h⟩
 | r::all,t=>by
  obtain ⟨h1,h2,h3⟩:=top_spec all (topStep t r)
  have e1:t≤topStep t r:=by unfold topStep;split <;> omega
  have e2:1≤r.kind→r.kind≤5→r.ver≤topStep t r:=fun a b=>by unfold topStep;rw [if_pos ⟨a,b⟩];omega
  rw [List.foldl_cons]
  refine ⟨Int.le_trans e1 h1,fun x hx a b=>?_,fun b hb hall=>h3 b ?_ fun x hx=>hall x (by simp [hx])⟩
  ·rcases List.mem_cons.1 hx with rfl | hx
   ·exact Int.le_trans (e2 a b) h1
   ·exact h2 x hx a b
  ·unfold topStep
   split
   ·rename_i hk
    have:=hall r (by simp) hk.1 hk.2
    omega
   ·exact hb
theorem rc_kind {r:Rec} (h:RcOk r):1≤r.kind∧r.kind≤6∧0≤r.lba∧r.lba≤2147483647:=by
 have:=h.1
 unfold recGood at this
 simp only [Bool.and_eq_true,decide_eq_true_eq] at this
 omega
theorem MemOk.top {LL:List (List Rec)} {es:List (Int×Ent)} {last:Int} (h:∀ L∈LL,MemOk L es last) (h0:0≤last):(0≤LL.flatten.foldl topStep 0∧LL.flatten.foldl topStep 0≤last)∧∀ L∈LL,MemOk L es (LL.flatten.foldl topStep 0):=by
 obtain ⟨h1,h2,h3⟩:=top_spec LL.flatten 0
 refine ⟨⟨h1,h3 last h0 fun r hr a b=>?_⟩,fun L hL=>(h L hL).look (fun _=>rfl) fun r hr hk=>?_⟩
 ·obtain ⟨L,hL,hr'⟩:=List.mem_flatten.1 hr
  exact (h L hL).ver r hr' (by omega)
 ·have:=rc_kind ((h L hL).rc r hr)
  exact h2 r (List.mem_flatten.2 ⟨L,hL,hr⟩) this.1 (by omega)
theorem eachM_cont {sz:Int} {x:Rec}:∀ (fs:List Bool) (s:MS),fs.Nodup→Lit0 s.pw→0≤s.pw.steps→s.pw.steps+(fs.length:Int)<1000000000000000→37*(fs.length:Int)≤sz-(s.xa.length:Int)→37*(fs.length:Int)≤sz-(s.xb.length:Int) →
  (eachM sz x fs s).2.xa=s.xa++(if false∈fs then packB x else [])∧(eachM sz x fs s).2.xb=s.xb++(if true∈fs then packB x else [])
 | [],s,_,_,_,_,_,_=>⟨by simp [eachM],by simp [eachM]⟩
 | f::fs,s,hn,h,h0,h1,ha,hb=>by
  simp only [List.length_cons] at h1 ha hb
  rw [List.nodup_cons] at hn
  have hs:=steps_wrap h h0 (by omega)
  have hp:(packB x).length=37:=rfl
  cases f
  ·have e:=appP_lit (sz:=sz) (x:=x) (bs:=s.xa) h (by omega)
   have e2:eachM sz x (false::fs) s=eachM sz x fs ⟨(stepP s.pw).2,s.xa++packB x,s.xb⟩:=by
    show (if _ then _ else _)=_
    simp only [appM,e]
    rw [if_neg (by simp)]
   rw [e2]
   obtain ⟨i1,i2⟩:=eachM_cont (sz:=sz) (x:=x) fs ⟨(stepP s.pw).2,s.xa++packB x,s.xb⟩ hn.2 (lit_step h).2 (by show 0≤(stepP s.pw).2.steps;omega) (by show (stepP s.pw).2.steps+_<_;omega) (by show _≤sz-((s.xa++packB x).length:Int);rw [List.length_append];omega) (by show _≤sz-(s.xb.length:Int);omega)
   rw [if_neg hn.1] at i1
   refine ⟨?_,?_⟩
   ·rw [i1,if_pos (by simp)];simp
   ·rw [i2]
    simp
  ·have e:=appP_lit (sz:=sz) (x:=x) (bs:=s.xb) h (by omega)
   have e2:eachM sz x (true::fs) s=eachM sz x fs ⟨(stepP s.pw).2,s.xa,s.xb++packB x⟩:=by
    show (if _ then _ else _)=_
    simp only [appM,e]
    rw [if_neg (by simp)]
   rw [e2]
   obtain ⟨i1,i2⟩:=eachM_cont (sz:=sz) (x:=x) fs ⟨(stepP s.pw).2,s.xa,s.xb++packB x⟩ hn.2 (lit_step h).2 (by show 0≤(stepP s.pw).2.steps;omega) (by show (stepP s.pw).2.steps+_<_;omega) (by show _≤sz-(s.xa.length:Int);omega) (by show _≤sz-((s.xb++packB x).length:Int);rw [List.length_append];omega)
   rw [if_neg hn.1] at i2
   refine ⟨?_,?_⟩
   ·rw [i1]
    simp
   ·rw [i2,if_pos (by simp)];simp
theorem eachA_cont {sz:Int} {fs:List Bool} (hfs:fs.length≤2) (hn:fs.Nodup):∀ (rs:List Rec) (s:MS),Lit0 s.pw→0≤s.pw.steps→s.pw.steps+2*(rs.length:Int)<100000000000000→74*(rs.length:Int)≤sz-(s.xa.length:Int)→74*(rs.length:Int)≤sz-(s.xb.length:Int) →
  (eachA sz fs rs s).2.xa=s.xa++(if false∈fs then rs.flatMap packB else [])∧(eachA sz fs rs s).2.xb=s.xb++(if true∈fs then rs.flatMap packB else [])
 | [],s,_,_,_,_,_=>⟨by simp [eachA],by simp [eachA]⟩
 | r::rs,s,h,h0,h1,ha,hb=>by
  simp only [List.length_cons] at h1 ha hb
  obtain ⟨j1,j2,j3,j4,j5⟩:=eachM_lit (sz:=sz) (x:=r) fs s h h0 (by omega) (by omega) (by omega)
  obtain ⟨k1,k2⟩:=eachM_cont (sz:=sz) (x:=r) fs s hn h h0 (by omega) (by omega) (by omega)
  have e:eachA sz fs (r::rs) s=eachA sz fs rs (eachM sz r fs s).2:=by
   show (if _ then _ else _)=_
   rw [if_neg (by simp [j1])]
  rw [e]
  generalize (eachM sz r fs s).2=t at *
  obtain ⟨i1,i2⟩:=eachA_cont (sz:=sz) hfs hn rs t j2 (by omega) (by omega) (by omega) (by omega)
  rw [i1,i2,k1,k2]
  refine ⟨?_,?_⟩
  ·by_cases hm:false∈fs
   ·rw [if_pos hm,if_pos hm,if_pos hm];simp
   ·rw [if_neg hm,if_neg hm,if_neg hm];simp
  ·by_cases hm:true∈fs
   ·rw [if_pos hm,if_pos hm,if_pos hm];simp
   ·rw [if_neg hm,if_neg hm,if_neg hm];simp
theorem writeM_c {g:Geo} {s:SS} {now:Int→Sec} {ep:Int} (h:GoodE g s now ep) (hst1:s.pw.steps<100000000000) {lba:Int} (h0:0≤lba) (h1:lba<(g.d-2)*g.c*g.s) (hl2:lostN (colsS g s (spotP g lba).1 (spotP g lba).2.2)≤2)
  {data:Sec} (hd:SecOk data) {v:Int} {fs:List Bool} (hfs:fs.length≤2) (hnd:fs.Nodup) {sz:Int} {xa xb:List Int} (ha:400≤sz-(xa.length:Int)) (hb:400≤sz-(xb.length:Int)) :
  (∀ x∈(planS g s lba data).1,InR x∧SecOk x.cel.data)∧(writeM sz g fs v lba data ep s xa xb).2.2.1=xa++(if false∈fs then (recsW v (planS g s lba data).1).flatMap packB else [])∧(writeM sz g fs v lba data ep s xa xb).2.2.2=xb++(if true∈fs then (recsW v (planS g s lba data).1).flatMap packB else []):=by
 have hs:=h.ss
 have hi:=h.inv
 have hn:=h.nok
 have hl:=h.lit
 have hst0:=h.st0
 obtain ⟨pst,pco,pof⟩:=spotP_ok hs.geo h0 h1
 obtain ⟨hp2,hps⟩:=planS_seal hs hi hn hl.1 h0 h1 hd hl2
 have hp3:(planS g s lba data).1.length≤3:=planS_len
 have hin:∀ x∈(planS g s lba data).1,InR x:=fun x hx=>seal_inR hs.geo (hps x hx).1
 refine ⟨fun x hx=>⟨hin x hx,(hps x hx).1.2.1⟩,?_⟩
 generalize hW:writeM sz g fs v lba data ep s xa xb=W
 unfold writeM at hW
 rw [if_neg (by simp [hp2])] at hW
 simp only at hW
 have hnb:(planS g s lba data).1.any badPut=false:=by
  rw [List.any_eq_false]
  intro x hx
  rw [badPut_in (hin x hx)];decide
 have hbg:beginM sz v (planS g s lba data).1 fs ⟨s.pw,xa,xb⟩=eachA sz fs ((planS g s lba data).1.map (recI v)++[recK 4 v]) ⟨s.pw,xa,xb⟩:=by
  unfold beginM
  rw [if_neg (by rw [hnb];decide)]
 rw [hbg] at hW
 obtain ⟨L,hL,hL4⟩:∃ L:Int,(((planS g s lba data).1.map (recI v)++[recK 4 v]).length:Int)=L∧(0≤L∧L≤4):=⟨_,rfl,by simp;omega⟩
 have hprod:0≤L*(fs.length:Int)∧L*(fs.length:Int)≤4*(fs.length:Int):=⟨Int.mul_nonneg hL4.1 (by omega),Int.mul_le_mul_of_nonneg_right hL4.2 (by omega)⟩
 obtain ⟨a1,a2,a3,a4,a5⟩:=eachA_lit (sz:=sz) hfs ((planS g s lba data).1.map (recI v)++[recK 4 v]) ⟨s.pw,xa,xb⟩ hl hst0 (by rw [hL];show s.pw.steps+_<_;omega) (by rw [hL];show _≤sz-(xa.length:Int);omega) (by rw [hL];show _≤sz-(xb.length:Int);omega)
 obtain ⟨b1,b2⟩:=eachA_cont (sz:=sz) hfs hnd ((planS g s lba data).1.map (recI v)++[recK 4 v]) ⟨s.pw,xa,xb⟩ hl hst0 (by rw [hL];show s.pw.steps+_<_;omega) (by rw [hL];show _≤sz-(xa.length:Int);omega) (by rw [hL];show _≤sz-(xb.length:Int);omega)
 rw [hL] at a3 a4 a5
 generalize eachA sz fs ((planS g s lba data).1.map (recI v)++[recK 4 v]) ⟨s.pw,xa,xb⟩=B at *
 rw [if_neg (by simp [a1])] at hW
 have hs1:SsOk g ⟨s.ds,B.2.pw⟩:=⟨hs.geo,hs.num,hs.len,hs.ok⟩
 have hi1:Inv g ⟨s.ds,B.2.pw⟩ now:=hi.see hs.geo (fun _ _ _ _=>rfl)
 have hpp:planS g s lba data=planS g ⟨s.ds,B.2.pw⟩ lba data:=planS_pw hl.1 a2.1 lba data
 have a3:B.2.pw.steps=s.pw.steps+L*(fs.length:Int):=a3
 have a4:(B.2.xa.length:Int)≤(xa.length:Int)+37*(L*(fs.length:Int)):=a4
 have a5:(B.2.xb.length:Int)≤(xb.length:Int)+37*(L*(fs.length:Int)):=a5
 obtain ⟨_,hps1⟩:=planS_seal hs1 hi1 hn a2.1 h0 h1 hd hl2
 have hp31:(planS g ⟨s.ds,B.2.pw⟩ lba data).1.length≤3:=planS_len
 obtain ⟨s',happ,_,c3,c2,_,_,_⟩:=applyS_ok (ep:=ep) hs1 a2 (by show 0≤B.2.pw.steps;omega) (by show B.2.pw.steps+_<_;omega) (fun x hx=>(hps1 x hx).1) h.key
 rw [hpp,happ] at hW
 rw [if_neg (by simp)] at hW
 have c2:s'.pw.steps=B.2.pw.steps+((planS g ⟨s.ds,B.2.pw⟩ lba data).1.length:Int):=c2
 obtain ⟨e1,e2⟩:=eachM_cont (sz:=sz) (x:=recK 5 v) fs ⟨s'.pw,B.2.xa,B.2.xb⟩ hnd c3 (by show 0≤s'.pw.steps;omega) (by show s'.pw.steps+_<_;omega) (by show _≤sz-(B.2.xa.length:Int);omega) (by show _≤sz-(B.2.xb.length:Int);omega)
 generalize eachM sz (recK 5 v) fs ⟨s'.pw,B.2.xa,B.2.xb⟩=E at *
 subst hW
 have e1:E.2.xa=B.2.xa++(if false∈fs then packB (recK 5 v) else []):=e1
 have e2:E.2.xb=B.2.xb++(if true∈fs then packB (recK 5 v) else []):=e2
 have b1:B.2.xa=xa++(if false∈fs then _ else []):=b1
 have b2:B.2.xb=xb++(if true∈fs then _ else []):=b2
 have hrw:(recsW v (planS g s lba data).1).flatMap packB=((planS g s lba data).1.map (recI v)++[recK 4 v]).flatMap packB++packB (recK 5 v):=by
  unfold recsW recsI
  simp
 refine ⟨?_,?_⟩
 ·show E.2.xa=_
  rw [e1,b1,hrw]
  by_cases hm:false∈fs
  ·rw [if_pos hm,if_pos hm,if_pos hm,List.append_assoc]
  ·rw [if_neg hm,if_neg hm,if_neg hm];simp
 ·show E.2.xb=_
  rw [e2,b2,hrw]
  by_cases hm:true∈fs
  ·rw [if_pos hm,if_pos hm,if_pos hm,List.append_assoc]
  ·rw [if_neg hm,if_neg hm,if_neg hm];simp
def EpOk (ep:Int) (A:List Rec):Prop:=(ep=0∨∃ r∈A,r.kind=6∧r.ver=ep)∧∀ r∈A,r.kind=6→r.ver≤ep
def JnM (up:Bool) (xs:List Int) (es:List (Int×Ent)) (last ep:Int):Prop:=up=true→∃ A,WholeB xs A∧MemOk A es last∧EpOk ep A
theorem WholeB.more {bs:List Int} {L:List Rec} (h:WholeB bs L) {X:List Rec} (hX:∀ r∈X,RcOk r):WholeB (bs++X.flatMap packB) (L++X):=by
 obtain ⟨h1,rfl⟩:=h
 refine ⟨fun r hr=>?_,by simp⟩
 rcases List.mem_append.1 hr with hr | hr
 ·exact h1 r hr
 ·exact hX r hr
theorem rc_dirty {v lba:Int} {d:Sec} (hd:SecOk d) (hv:0≤v∧v≤18446744073709551615) (hl:0≤lba∧lba≤2147483647):RcOk ⟨1,v,lba,d⟩:=by
 refine ⟨?_,hv,hd⟩
 unfold recGood
 simp only [Bool.and_eq_true,decide_eq_true_eq]
 omega
theorem rc_clean {v lba:Int} (hv:0≤v∧v≤18446744073709551615) (hl:0≤lba∧lba≤2147483647):RcOk ⟨2,v,lba,sec []⟩:=by
 refine ⟨?_,hv,sec0_ok⟩
 unfold recGood
 simp only [Bool.and_eq_true,decide_eq_true_eq]
 omega
theorem rc_epoch {v:Int} (hv:0≤v∧v≤18446744073709551615):RcOk ⟨6,v,0,sec []⟩:=⟨rfl,hv,sec0_ok⟩
theorem epoch_more {A X:List Rec} {ep:Int} (h:EpOk ep A) (hX:∀ r∈X,r.kind≠6):EpOk ep (A++X):=by
 refine ⟨?_,fun r hr hk=>?_⟩
 ·rcases h.1 with h | ⟨r,h1,h2⟩
  ·exact Or.inl h
  ·exact Or.inr ⟨r,List.mem_append.2 (Or.inl h1),h2⟩
 ·rcases List.mem_append.1 hr with hr | hr
  ·exact h.2 r hr hk
  ·exact absurd hk (hX r hr)
theorem JnM.put {up:Bool} {xs:List Int} {es:List (Int×Ent)} {last ep lba:Int} {d:Sec} (h:JnM up xs es last ep) (hr:RcOk ⟨1,last+1,lba,d⟩):JnM up (xs++(if up=true then packB ⟨1,last+1,lba,d⟩ else [])) (ins es lba (d,last+1)) (last+1) ep:=by
 intro hu
 obtain ⟨A,a1,a2,a3⟩:=h hu
 rw [if_pos hu]
 exact ⟨A++[⟨1,last+1,lba,d⟩],a1.app hr,a2.put hr,epoch_more a3 fun r hr=>by rw [List.mem_singleton.1 hr];show (1:Int)≠6;decide⟩
theorem JnM.out {up:Bool} {xs:List Int} {es:List (Int×Ent)} {last ep lba:Int} {e:Ent} {P:List PutS} (h:JnM up xs es last ep) (hm:mlook es lba=some e) (hP:∀ r∈recsW (last+1) P,RcOk r) (hc:RcOk ⟨2,e.2,lba,sec []⟩) :
  JnM up (xs++(if up=true then (recsW (last+1) P++[(⟨2,e.2,lba,sec []⟩:Rec)]).flatMap packB else [])) (del es lba) (last+1) ep:=by
 intro hu
 obtain ⟨A,a1,a2,a3⟩:=h hu
 rw [if_pos hu]
 refine ⟨A++(recsW (last+1) P++[⟨2,e.2,lba,sec []⟩]),a1.more fun r hr=>?_,?_,epoch_more a3 fun r hr=>?_⟩
 ·rcases List.mem_append.1 hr with hr | hr
  ·exact hP r hr
  ·rw [List.mem_singleton.1 hr];exact hc
 ·rw [← List.append_assoc]
  exact (a2.write hP).clean hm hc
 ·rcases List.mem_append.1 hr with hr | hr
  ·have:=recsW_kind r hr;omega
  ·rw [List.mem_singleton.1 hr];show (2:Int)≠6;decide
theorem mem_upS (s:PS) (f:Bool):(false∈upS s f ↔ s.ua=true)∧(true∈upS s f ↔ s.ub=true)∧(upS s f).Nodup:=by
 unfold upS
 cases f <;> cases s.ua <;> cases s.ub <;> simp
structure Jn (s:AS) (ep:Int):Prop where
 a:JnM s.ps.ua s.ps.xa s.ps.es s.ps.last ep
 b:JnM s.ps.ub s.ps.xb s.ps.es s.ps.last ep
structure Downs (s s':AS):Prop where
 a:s.ps.ua=false→s'.ps.xa=s.ps.xa
 b:s.ps.ub=false→s'.ps.xb=s.ps.xb
theorem Downs.refl (s:AS):Downs s s:=⟨fun _=>rfl,fun _=>rfl⟩
theorem putJ {q:AB} {s:AS} {fin:Int→Sec} {ep x y:Int} (h:Qv q s fin ep x y) (hJ:Jn s ep) {f:Bool} {lba:Int} {d:Sec} (hd:SecOk d) (h0:0≤lba) (h1:lba<capG20 q.g) (hup:(cond f s.ps.ub s.ps.ua)=true)
  (hroom:mlook s.ps.es lba=none→(s.ps.es.length:Int)<q.pb.room) (hst:s.ps.pw.steps<10000000000000) (hla:s.ps.last<1000000000000) (ha:100≤q.pb.sz-(s.ps.xa.length:Int)) (hb:100≤q.pb.sz-(s.ps.xb.length:Int)) (hcap:capG20 q.g≤100000) :
  Jn { s with ps:=(putP q.pb.room q.pb.sz s.ps f lba d).2 } ep∧Downs s { s with ps:=(putP q.pb.room q.pb.sz s.ps f lba d).2 }:=by
 obtain ⟨now,hg,hf⟩:=h.good
 have hs0:0≤s.ps.pw.steps:=hg.st0
 have hl0:=h.last
 have hlu:=len_upS s.ps f
 obtain ⟨M,m,hput⟩:=putP_lit (room:=q.pb.room) (sz:=q.pb.sz) (d:=d) hg.lit hs0 hst hl0 hla h0 (by omega) hup hroom (fun e he=>(h.es lba e he).2.2.2) ha hb
 have hv:IntKind.wrap .u64 (s.ps.last+1)=s.ps.last+1:=wrapU64 (by omega) (by omega)
 obtain ⟨u1,u2,u3⟩:=mem_upS s.ps f
 obtain ⟨c1,c2⟩:=eachM_cont (sz:=q.pb.sz) (x:=⟨1,s.ps.last+1,lba,d⟩) (upS s.ps f) ⟨s.ps.pw,s.ps.xa,s.ps.xb⟩ u3 hg.lit hs0 (by show s.ps.pw.steps+_<_;omega) (by show _≤q.pb.sz-(s.ps.xa.length:Int);omega) (by show _≤q.pb.sz-(s.ps.xb.length:Int);omega)
 have hpe:putE q.pb.room s.ps.es lba (s.ps.last+1)=0:=by
  unfold putE
  rw [if_neg (by omega)]
  cases hm:mlook s.ps.es lba with
  | none=>simp only;rw [if_neg (by have:=hroom hm;omega)]
  | some e=>simp only;rw [if_neg (by have:=(h.es lba e hm).2.2.2;omega)]
 obtain ⟨m1,_⟩:=eachM_lit (sz:=q.pb.sz) (x:=⟨1,s.ps.last+1,lba,d⟩) (upS s.ps f) ⟨s.ps.pw,s.ps.xa,s.ps.xb⟩ hg.lit hs0 (by show s.ps.pw.steps+_<_;omega) (by show _≤q.pb.sz-(s.ps.xa.length:Int);omega) (by show _≤q.pb.sz-(s.ps.xb.length:Int);omega)
 have hput:putP q.pb.room q.pb.sz s.ps f lba d=((s.ps.last+1,0),{ s.ps with last:=s.ps.last+1,pw:=(eachM q.pb.sz ⟨1,s.ps.last+1,lba,d⟩ (upS s.ps f) ⟨s.ps.pw,s.ps.xa,s.ps.xb⟩).2.pw,xa:=(eachM q.pb.sz ⟨1,s.ps.last+1,lba,d⟩ (upS s.ps f) ⟨s.ps.pw,s.ps.xa,s.ps.xb⟩).2.xa,xb:=(eachM q.pb.sz ⟨1,s.ps.last+1,lba,d⟩ (upS s.ps f) ⟨s.ps.pw,s.ps.xa,s.ps.xb⟩).2.xb,es:=ins s.ps.es lba (d,s.ps.last+1) }):=by
  unfold putP
  rw [if_neg (by omega),if_neg (by rw [hup];decide),if_neg (by rintro ⟨e1,e2⟩;have:=hroom e1;omega)]
  simp only [hv]
  unfold eachP
  rw [eachS_eq]
  have hu:upS { s.ps with last:=s.ps.last+1 } f=upS s.ps f:=rfl
  rw [hu]
  simp only [m1,hpe]
  rfl
 rw [hput]
 simp only [u1,u2] at c1 c2
 have hr:=rc_dirty (v:=s.ps.last+1) (lba:=lba) hd (by omega) (by omega)
 refine ⟨⟨?_,?_⟩,⟨fun hu=>?_,fun hu=>?_⟩⟩
 ·show JnM s.ps.ua (eachM _ _ _ _).2.xa _ _ _
  rw [c1]
  exact hJ.a.put hr
 ·show JnM s.ps.ub (eachM _ _ _ _).2.xb _ _ _
  rw [c2]
  exact hJ.b.put hr
 ·show (eachM _ _ _ _).2.xa=_
  rw [c1,if_neg (by rw [hu];decide)];simp
 ·show (eachM _ _ _ _).2.xb=_
  rw [c2,if_neg (by rw [hu];decide)];simp
theorem outJ {q:AB} {s:AS} {fin:Int→Sec} {ep x y:Int} {f:Bool} (h:Qv q s fin ep x y) (hJ:Jn s ep) (hep:epA s f=ep) {p:Int×Ent} (hp:p∈s.ps.es) (hst:s.ps.pw.steps<10000000000) (hla:s.ps.last<1000000000000) (ha:500≤q.pb.sz-(s.ps.xa.length:Int)) (hb:500≤q.pb.sz-(s.ps.xb.length:Int)) (hcap:capG20 q.g≤100000) :
  Jn (outA q s f p).2 ep∧Downs s (outA q s f p).2:=by
 have hm:=mem_look h.nd hp
 obtain ⟨⟨p0,p1⟩,p2,p3,p4⟩:=h.es p.1 p.2 hm
 have hl0:=h.last
 obtain ⟨now,hg,hf⟩:=h.good
 have hs0:0≤s.ps.pw.steps:=hg.st0
 have hv:IntKind.wrap .u64 (s.ps.last+1)=s.ps.last+1:=wrapU64 (by omega) (by omega)
 unfold outA
 rw [hv]
 have hd:SecOk p.2.1:=by rw [p2];exact h.fok _
 obtain ⟨pst,_,pof⟩:=spotP_ok hg.ss.geo p0 p1
 have hlu:=len_upS s.ps f
 obtain ⟨u1,u2,u3⟩:=mem_upS s.ps f
 obtain ⟨v1,v2,v3⟩:=mem_upS s.ps false
 have hW:=writeM_v (s:=s.ss) (v:=s.ps.last+1) (fs:=upS s.ps f) (sz:=q.pb.sz) (xa:=s.ps.xa) (xb:=s.ps.xb) hg (by show s.ps.pw.steps<_;omega) p0 p1 (h.lost pst pof) hd (len_upS _ _) (by omega) (by omega)
 obtain ⟨hP,d1,d2⟩:=writeM_c (s:=s.ss) (v:=s.ps.last+1) (fs:=upS s.ps f) (sz:=q.pb.sz) (xa:=s.ps.xa) (xb:=s.ps.xb) hg (by show s.ps.pw.steps<_;omega) p0 p1 (h.lost pst pof) hd (len_upS _ _) u3 (by omega) (by omega)
 have hlu2:(upS s.ps false).length=(upS s.ps f).length:=by
  unfold upS
  cases f <;> cases s.ps.ua <;> cases s.ps.ub <;> rfl
 unfold outB
 have hu:upS { s.ps with last:=s.ps.last+1 } f=upS s.ps f:=rfl
 have hss:(⟨s.ds,s.ps.pw⟩:SS)=s.ss:=rfl
 simp only [hu,hss,hep]
 generalize (planS q.g s.ss p.1 p.2.1).1=P at *
 generalize writeM q.pb.sz q.g (upS s.ps f) (s.ps.last+1) p.1 p.2.1 ep s.ss s.ps.xa s.ps.xb=r at *
 have w1:=hW.steps
 have w1:s.ps.pw.steps≤r.2.1.pw.steps∧r.2.1.pw.steps≤s.ps.pw.steps+(5*((upS s.ps f).length:Int)+3):=w1
 have wa:=hW.a
 have wb:=hW.b
 rw [if_neg (by simp [hW.ok])]
 have hgv:getV s.ps.es p.1=(p.2.1,p.2.2,0):=by unfold getV;rw [hm]
 have hcl:cleanE s.ps.es p.1 p.2.2=0:=by unfold cleanE;rw [hm];simp only;rw [if_neg (by omega)]
 have hu2:upS { s.ps with last:=s.ps.last+1,pw:=r.2.1.pw,xa:=r.2.2.1,xb:=r.2.2.2 } false=upS s.ps false:=rfl
 obtain ⟨m1,m2,m3,m4,m5⟩:=eachM_lit (sz:=q.pb.sz) (x:=⟨2,p.2.2,p.1,sec []⟩) (upS s.ps false) ⟨r.2.1.pw,r.2.2.1,r.2.2.2⟩ hW.good.lit (by show 0≤r.2.1.pw.steps;omega) (by show r.2.1.pw.steps+_<_;omega) (by show _≤q.pb.sz-(r.2.2.1.length:Int);omega) (by show _≤q.pb.sz-(r.2.2.2.length:Int);omega)
 obtain ⟨c1,c2⟩:=eachM_cont (sz:=q.pb.sz) (x:=⟨2,p.2.2,p.1,sec []⟩) (upS s.ps false) ⟨r.2.1.pw,r.2.2.1,r.2.2.2⟩ v3 hW.good.lit (by show 0≤r.2.1.pw.steps;omega) (by show r.2.1.pw.steps+_<_;omega) (by show _≤q.pb.sz-(r.2.2.1.length:Int);omega) (by show _≤q.pb.sz-(r.2.2.2.length:Int);omega)
 have hfl:flushP q.pb.sz { s.ps with last:=s.ps.last+1,pw:=r.2.1.pw,xa:=r.2.2.1,xb:=r.2.2.2 } p.1 p.2.2=(0,{ s.ps with last:=s.ps.last+1,es:=del s.ps.es p.1,pw:=(eachM q.pb.sz ⟨2,p.2.2,p.1,sec []⟩ (upS s.ps false) ⟨r.2.1.pw,r.2.2.1,r.2.2.2⟩).2.pw,xa:=(eachM q.pb.sz ⟨2,p.2.2,p.1,sec []⟩ (upS s.ps false) ⟨r.2.1.pw,r.2.2.1,r.2.2.2⟩).2.xa,xb:=(eachM q.pb.sz ⟨2,p.2.2,p.1,sec []⟩ (upS s.ps false) ⟨r.2.1.pw,r.2.2.1,r.2.2.2⟩).2.xb }):=by
  unfold flushP
  simp only [hgv]
  rw [if_neg (by decide),if_neg (by omega)]
  unfold eachP
  rw [hu2,eachS_eq]
  simp only [m1,hcl]
  rfl
 rw [hfl]
 simp only [u1,u2] at d1 d2
 simp only [v1,v2] at c1 c2
 have hRW:∀ r∈recsW (s.ps.last+1) P,RcOk r:=recsW_ok (by omega) hP
 have hc:=rc_clean (v:=p.2.2) (lba:=p.1) (by omega) (by omega)
 refine ⟨⟨?_,?_⟩,⟨fun hu=>?_,fun hu=>?_⟩⟩
 ·show JnM s.ps.ua (eachM _ _ _ _).2.xa _ _ _
  rw [c1,d1]
  have:=hJ.a.out hm hRW hc
  by_cases hx:s.ps.ua=true
  ·rw [if_pos hx] at this ⊢
   rw [if_pos hx,List.append_assoc]
   rw [List.flatMap_append] at this
   simpa using this
  ·intro hy;exact absurd hy hx
 ·show JnM s.ps.ub (eachM _ _ _ _).2.xb _ _ _
  rw [c2,d2]
  have:=hJ.b.out hm hRW hc
  by_cases hx:s.ps.ub=true
  ·rw [if_pos hx] at this ⊢
   rw [if_pos hx,List.append_assoc]
   rw [List.flatMap_append] at this
   simpa using this
  ·intro hy;exact absurd hy hx
 ·show (eachM _ _ _ _).2.xa=_
  rw [c1,d1,if_neg (by rw [hu];decide),if_neg (by rw [hu];decide)];simp
 ·show (eachM _ _ _ _).2.xb=_
  rw [c2,d2,if_neg (by rw [hu];decide),if_neg (by rw [hu];decide)];simp
end Go.Proofs
namespace Go.Proofs
open Go Go.Ev Go.RowKit
set_option maxRecDepth 100000
theorem loadP_lit {pw:Pow} {sz:Int} {bs:List Int} {rs:List Rec} (h:Lit0 pw) (hs:37*(rs.length:Int)≤sz):loadP pw sz bs rs=(0,(stepP pw).2,rs.flatMap packB):=by
 unfold loadP
 rw [if_neg (by rw [h.1];decide),if_neg (by omega),if_neg (by rw [(lit_step h).1];decide)]
theorem compS_lit {sz:Int} {rs:List Rec} (hsz:37*(rs.length:Int)≤sz):∀ (fs:List Bool) (s:PS),fs.Nodup→Lit0 s.pw→0≤s.pw.steps→s.pw.steps+(fs.length:Int)<1000000000000000 →
  (compS sz rs fs s).1=0∧Lit0 (compS sz rs fs s).2.pw∧(compS sz rs fs s).2.pw.steps=s.pw.steps+(fs.length:Int) ∧
   (compS sz rs fs s).2={ s with pw:=(compS sz rs fs s).2.pw,xa:=if false∈fs then rs.flatMap packB else s.xa,xb:=if true∈fs then rs.flatMap packB else s.xb }
 | [],s,_,h,_,_=>⟨rfl,h,by simp [compS],by simp [compS]⟩
 | f::fs,s,hn,h,h0,h1=>by
  simp only [List.length_cons] at h1
  rw [List.nodup_cons] at hn
  have hst:=steps_wrap h h0 (by omega)
  cases f
  ·have e:=loadP_lit (bs:=s.xa) h hsz
   have e1:load1 sz rs false s=(0,{ s with pw:=(stepP s.pw).2,xa:=rs.flatMap packB }):=by unfold load1;rw [e]
   have e2:compS sz rs (false::fs) s=compS sz rs fs { s with pw:=(stepP s.pw).2,xa:=rs.flatMap packB }:=by
    show (if _ then _ else _)=_
    rw [e1,if_neg (by simp)]
   rw [e2]
   obtain ⟨i1,i2,i3,i4⟩:=compS_lit hsz fs { s with pw:=(stepP s.pw).2,xa:=rs.flatMap packB } hn.2 (lit_step h).2 (by show 0≤(stepP s.pw).2.steps;omega) (by show (stepP s.pw).2.steps+_<_;omega)
   refine ⟨i1,i2,?_,?_⟩
   ·rw [i3]
    show (stepP s.pw).2.steps+_=_
    simp only [List.length_cons]
    omega
   ·rw [if_neg hn.1] at i4
    rw [if_pos (by simp)]
    rw [i4]
    simp
  ·have e:=loadP_lit (bs:=s.xb) h hsz
   have e1:load1 sz rs true s=(0,{ s with pw:=(stepP s.pw).2,xb:=rs.flatMap packB }):=by unfold load1;rw [e]
   have e2:compS sz rs (true::fs) s=compS sz rs fs { s with pw:=(stepP s.pw).2,xb:=rs.flatMap packB }:=by
    show (if _ then _ else _)=_
    rw [e1,if_neg (by simp)]
   rw [e2]
   obtain ⟨i1,i2,i3,i4⟩:=compS_lit hsz fs { s with pw:=(stepP s.pw).2,xb:=rs.flatMap packB } hn.2 (lit_step h).2 (by show 0≤(stepP s.pw).2.steps;omega) (by show (stepP s.pw).2.steps+_<_;omega)
   refine ⟨i1,i2,?_,?_⟩
   ·rw [i3]
    show (stepP s.pw).2.steps+_=_
    simp only [List.length_cons]
    omega
   ·rw [if_neg hn.1] at i4
    rw [if_pos (show true∈true::fs by simp)]
    rw [i4]
    simp
theorem esOf_isD {rs:List Rec} (h:∀ r∈rs,r.kind=1) (hv:ByVer rs):IsD (esOf rs) rs:=by
 refine ⟨?_,hv⟩
 have:(esOf rs).map recOf=rs:=by
  unfold esOf
  rw [List.map_map]
  have e:∀ r∈rs,(recOf ∘ fun r:Rec=>(r.lba,(r.data,r.ver))) r=r:=fun r hr=>by
   have:=h r hr
   obtain ⟨a,b,c,d⟩:=r
   simp only at this
   subst this
   rfl
  rw [List.map_congr_left e,List.map_id']
 rw [this]
def upsS (f0 f1:Bool):List Bool:=[false,true].filter fun f=>cond f f1 f0
def resP (rs:List Rec) (top e:Int) (f0 f1:Bool) (ms:MS):PS:=⟨esOf rs,top,e,f0,f1,ms.pw,ms.xa,ms.xb⟩
def IsLeft (LL:List (List Rec)) (rs:List Rec):Prop:=rs.Perm (leftD (LL.flatten.foldl stepD ([],[])))∧ByVer rs
def topL (LL:List (List Rec)):Int:=LL.flatten.foldl topStep 0
def recvA (s:AS) (ss1:SS) (e:Int) (f0 f1:Bool) (ps:PS):AS:={ s with ds:=(fenceS ⟨ss1.ds,ps.pw⟩ e).2.ds,ps:=ps,ua:=f0,ub:=f1,la:=f0,ea:=e,lb:=f1,eb:=e }
def AB.re (q:AB) (p c mp:Nat):AB:={ q with pb:={ q.pb with p:=p,c:=c,mp:=mp } }
theorem ArS.ofPair {w0 w1 w2:World} {q:AB} {p c mp:Nat} (h:Keep (ArS q w0) w0 w1) (hp:w0.heap.size≤p) (hmp:w0.heap.size≤mp) (k:Keep (PFoot (q.re p c mp).pb w1) w1 w2):Keep (ArS q w0) w0 w2 :=
 h.trans' k fun i hi hf=>Classical.byContradiction fun hn=>by
  rcases hf with e | e | e | e | e | ⟨hb,cs,hc⟩
  ·have e:i=p:=e
   omega
  ·have e:i=mp:=e
   omega
  ·exact hn (Or.inl (Or.inr (Or.inr (Or.inr (Or.inr (Or.inl e))))))
  ·exact hn (Or.inl (Or.inr (Or.inr (Or.inr (Or.inr (Or.inr (Or.inl e)))))))
  ·exact hn (Or.inl (Or.inr (Or.inr (Or.inr (Or.inr (Or.inr (Or.inr (Or.inl e))))))))
  ·exact hn (Or.inl (Or.inr (Or.inr (Or.inr (Or.inr (Or.inr (Or.inr (Or.inr ⟨hb,cs,(h.block i hi hn).symm.trans hc⟩))))))))
theorem fence_same (ds:List Dsk) (p p':Pow) (h:p.on=true) (h':p'.on=true) (e:Int):(fenceS ⟨ds,p⟩ e).2.ds=(fenceS ⟨ds,p'⟩ e).2.ds:=by
 unfold fenceS
 rw [if_neg (by rw [show ({ ds:=ds,pw:=p }:SS).pw.on=true from h];decide),if_neg (by rw [show ({ ds:=ds,pw:=p' }:SS).pw.on=true from h'];decide)]
 show ds.map _=ds.map _
 refine List.map_congr_left fun D _=>?_
 unfold fenceD
 show (if p.on=false then _ else _:Int×Dsk).2=(if p'.on=false then _ else _:Int×Dsk).2
 rw [h,h']
structure RvL (w:World) (sp:Option Addr) (sl sc:Nat) (ss:List Bool) (lp:Option Addr) (ll lc:Nat) (Q:List (Option Addr×Nat×Nat)) (LL:List (List Rec)):Prop where
 s:SlT iLay w 3 sp sl sc (ss.map sideN)
 l:SlT hLay w 113 lp ll lc Q
 q:Q.length=LL.length
 r:∀ (i:Nat) (q:Option Addr×Nat×Nat) (rs:List Rec),Q[i]? = some q→LL[i]? = some rs→SlT rLay w 246 q.1 q.2.1 q.2.2 rs
theorem RvL.keep {w w':World} {S:Nat→Prop} {sp:Option Addr} {sl sc:Nat} {ss:List Bool} {lp:Option Addr} {ll lc:Nat} {Q:List (Option Addr×Nat×Nat)} {LL:List (List Rec)} (h:RvL w sp sl sc ss lp ll lc Q LL) (k:Keep S w w')
  (hS:∀ (i:Nat) (cs:Array Value) (t:TypeId),Has w i (.cells cs t (0,0))→t=3∨t=113∨t=246∨t=138→¬ S i):RvL w' sp sl sc ss lp ll lc Q LL :=
 ⟨h.s.keepB k fun i cur hi=>hS i cur _ hi (Or.inl rfl),h.l.keepB k fun i cur hi=>hS i cur _ hi (Or.inr (Or.inl rfl)),h.q,fun i a rs x y=>(h.r i a rs x y).keepB k fun i cur hi=>hS i cur _ hi (Or.inr (Or.inr (Or.inl rfl)))⟩
theorem four_ne {t u:TypeId} (h:t=3∨t=113∨t=246∨t=138) (h1:3≠u) (h2:113≠u) (h3:246≠u) (h4:138≠u):t≠u:=by
 rcases h with rfl | rfl | rfl | rfl <;> assumption
theorem four_S {w:World} {q:SB} {s:SS} (h:SetAt w q s):∀ (i:Nat) (cs:Array Value) (t:TypeId),Has w i (.cells cs t (0,0))→t=3∨t=113∨t=246∨t=138→¬ SFoot q i:=fun i cs t hi ht =>
 h.typ hi (four_ne ht (by decide) (by decide) (by decide) (by decide)) (four_ne ht (by decide) (by decide) (by decide) (by decide)) (four_ne ht (by decide) (by decide) (by decide) (by decide))
theorem four_M {w:World} {q:MB} {s:MS} (h:MemsAt w q s):∀ (i:Nat) (cs:Array Value) (t:TypeId),Has w i (.cells cs t (0,0))→t=3∨t=113∨t=246∨t=138→¬ MFoot q w i:=fun i cs t hi ht =>
 MFoot.not hi h (four_ne ht (by decide) (by decide) (by decide) (by decide)) (four_ne ht (by decide) (by decide) (by decide) (by decide)) (four_ne ht (by decide) (by decide) (by decide) (by decide))
theorem eachM_cons0 {sz:Int} {x:Rec} {f:Bool} {fs:List Bool} {m m':MS} (h:eachM sz x (f::fs) m=(0,m')):(appM sz x f m).1=0∧eachM sz x fs (appM sz x f m).2=(0,m'):=by
 have e:eachM sz x (f::fs) m=if (appM sz x f m).1≠0 then appM sz x f m else eachM sz x fs (appM sz x f m).2:=rfl
 rw [e] at h
 split at h
 ·rename_i hne
  exact absurd (by rw [h]) hne
 ·rename_i hne
  exact ⟨by omega,h⟩
section calls
variable {w:World} {q:AB} {s:AS} {R:Value→World→Prop}
set_option maxHeartbeats 1000000 in
theorem ar_recover (h:ArC w q 1 none s) {f0 f1:Bool} (hf01:f0=true∨f1=true) {src:Bool} {srcs:List Bool} {sp:Option Addr} {sl sc:Nat} (hsl2:sl≤2)
  {lp:Option Addr} {ll lc:Nat} {Q:List (Option Addr×Nat×Nat)} {LL:List (List Rec)} (hv:RvL w sp sl sc (src::srcs) lp ll lc Q LL) (hll:ll≤2) (hflat:LL.flatten.length≤100000) (hrc:∀ r∈LL.flatten,RcOk r)
  {key:Int} (hkey:0≤key∧key≤4294967295) (hpend:(pendG LL).length≤1) (hP:(pendS LL).length≤1000000) {ss1:SS} (happ:applyS q.g s.ss (pendS LL) key=(0,ss1)) (hok1:∀ D∈ss1.ds,DskOk D)
  {e:Int} (haf:afterS key (sideN src)=(e,0)) (he:0≤e∧e≤4294967295) {ms:MS} (hms:eachM q.pb.sz ⟨6,e,0,sec []⟩ (src::srcs) ⟨ss1.pw,s.ps.xa,s.ps.xb⟩=(0,ms)) (hon1:ms.pw.on=true)
  (hroom:1≤q.pb.room∧q.pb.room≤64)
  (hrs:∀ rs,IsLeft LL rs→(∀ r∈rs,r.kind=1∧(0≤r.lba∧r.lba≤2147483647)∧r.ver≤topL LL)∧(rs.map (·.lba)).Nodup∧(rs.length:Int)≤q.pb.room)
  (hcomp:∀ rs,IsLeft LL rs→(compS q.pb.sz (⟨6,e,0,sec []⟩::rs) (upsS f0 f1) (resP rs (topL LL) e f0 f1 ms)).1=0∧(compS q.pb.sz (⟨6,e,0,sec []⟩::rs) (upsS f0 f1) (resP rs (topL LL) e f0 f1 ms)).2.pw.on=true)
  (hK:∀ p c mp rs w',IsLeft LL rs→w.heap.size≤p→w.heap.size≤mp→ArAt w' (q.re p c mp) 1 (recvA s ss1 e f0 f1 (compS q.pb.sz (⟨6,e,0,sec []⟩::rs) (upsS f0 f1) (resP rs (topL LL) e f0 f1 ms)).2)→Keep (ArS q w) w w'→R (.int .i64 0) w') :
  zB Tryz.prog 91 #[.pointer (some ⟨q.a,0,none⟩),.int .u32 key,.agg #[.bool f0,.bool f1],.slice sp sl sc,.slice lp ll lc] w R:=by
 apply C_array_Array_recover
 unfold F_array_Array_recover
 have hsl:sl=srcs.length+1:=by have:=hv.s.len;simpa using this
 refine alc_fresh fun w1 hb1 k1 z1=>?_
 have h1:=h.keep0 k1
 have v1:=hv.keep k1 (fun _ _ _ _ _=>by simp)
 refine LdA_has (cs:=setV q.g q.sp q.g.d.toNat q.sc) h1.cells (by show 3+4≤21;decide) (arCp_set q 1 none s) ?_
 refine i_RedoG sort_to1 h1.stm.set h1.stm.disks v1.l.sl v1.q (fun i a rs x y=>⟨(v1.r i a rs x y).sl,(v1.r i a rs x y).cap.1⟩) (by omega) hflat (fun r hr=>by have:=rc_kind (hrc r hr);omega) (fun r hr=>(hrc r hr).2.1) hpend (by decide) hP fun w2 hS2 k2=>?_
 rw [happ] at hS2 ⊢
 have h2:=h1.ofSet hS2 k2
 have v2:=v1.keep k2 (four_S h1.stm.set)
 have hb2:=k2.has hb1 (four_S h1.stm.set _ _ _ hb1 (Or.inr (Or.inr (Or.inr rfl))))
 have k02:Keep (ArS q w) w w2:=ArS.trans (ArS.none k1) (ArS.ofS k2)
 clear h1 v1 hb1 k1 k2 hS2 hv
 generalize hbE:w.heap.size=b at *
 refine zA.2 ((Cb_false (p:=_)).2 ?_)
 refine v2.s.ld0 (x:=sideN src) rfl (by decide) rfl rfl (zA.2 ?_)
 refine merge_After hkey.1 hkey.2 (by have:=side_rng src;omega) ?_
 rw [haf]
 refine T2_mk.2 (zA.2 (zA.2 ((Cb_false (p:=_)).2 ?_)))
 refine LoopC_of (σ:=Int×Unit) (fun st w'=>∃ (j:Nat) (m:MS),st.1=(j:Int)∧j≤sl∧ArC w' q 1 none { s with ds:=ss1.ds,ps:={ s.ps with pw:=m.pw,xa:=m.xa,xb:=m.xb } }∧eachM q.pb.sz ⟨6,e,0,sec []⟩ ((src::srcs).drop j) m=(0,ms)∧RvL w' sp sl sc (src::srcs) lp ll lc Q LL∧Has w' b (.cells #[.bool f0,.bool f1] 138 (0,0))∧Keep (ArS q w) w w')
  (fun st _=>((sl:Int)-st.1).toNat) ⟨0,⟨ss1.pw,s.ps.xa,s.ps.xb⟩,rfl,by omega,h2,hms,v2,hb2,k02⟩ ?_
 clear h2 v2 hb2 k02
 rintro _ ⟨i,u⟩ w3 ⟨j,m,hi,hj,h3,hm3,v3,hb3,k03⟩
 simp only at hi ⊢
 subst hi
 refine Cb_of (fun hc=>?_) (fun hc=>?_)
 ·have hj:j<sl:=by simp at hc;omega
  obtain ⟨f,hf⟩:∃ f,(src::srcs)[j]? = some f:=⟨_,List.getElem?_eq_getElem (by simp;omega)⟩
  refine v3.s.ld0 (x:=sideN f) rfl (by omega) (by rw [Int.toNat_natCast,List.getElem?_map,hf];rfl) rfl (zA.2 ⟨side_rng f,?_⟩)
  refine LdV_has (v:=.pointer (some ⟨ramM q.mb f,0,none⟩)) h3.cells (by cases f <;> rfl) (OpN_some.2 ?_)
  rw [wrapU64 (x:=e) (by omega) (by omega)]
  refine DoQ_of (v:=.agg (recV ⟨6,e,0,sec []⟩)) (fun _=>run_build _ _ _ _ (by kernel_rfl)) (OpA_agg.2 ⟨rfl,?_⟩)
  have hdrop:(src::srcs).drop j=f::(src::srcs).drop (j+1):=by
   rw [List.drop_eq_getElem_cons (by simp;omega)]
   congr 1
   have:=List.getElem?_eq_getElem (l:=src::srcs) (i:=j) (by simp;omega)
   rw [hf] at this
   exact (Option.some.inj this).symm
  rw [hdrop] at hm3
  obtain ⟨m1,m2⟩:=eachM_cons0 hm3
  refine mem_app h3.stm.mems (f:=f) (x:=⟨6,e,0,sec []⟩) rfl fun w4 hM4 k4=>zA.2 ?_
  have hM4:MemsAt w4 q.mb (appM q.pb.sz ⟨6,e,0,sec []⟩ f m).2:=hM4
  have e0:(appM q.mb.sz ⟨6,e,0,sec []⟩ f ⟨m.pw,m.xa,m.xb⟩).1=0:=m1
  have h4:=h3.ofMems hM4 k4
  show Cb ((appM q.mb.sz ⟨6,e,0,sec []⟩ f ⟨m.pw,m.xa,m.xb⟩).1 !=0) _ _
  rw [e0]
  refine (Cb_false (p:=_)).2 ?_
  rw [wrapI (by omega) (by omega)]
  exact ⟨_,by omega,⟨j+1,(appM q.pb.sz ⟨6,e,0,sec []⟩ f m).2,by omega,by omega,h4,m2,v3.keep k4 (four_M h3.stm.mems),k4.has hb3 (four_M h3.stm.mems _ _ _ hb3 (Or.inr (Or.inr (Or.inr rfl)))),ArS.trans k03 (ArS.ofM k4)⟩,rfl⟩
 have hj:j=sl:=by simp at hc;omega
 have hdrop:(src::srcs).drop j=[]:=List.drop_eq_nil_of_le (by simp;omega)
 rw [hdrop] at hm3
 have hmm:m=ms:=congrArg Prod.snd hm3
 subst hmm
 clear hc hm3 hdrop
 refine LdA_has (cs:=setV q.g q.sp q.g.d.toNat q.sc) h3.cells (by show 3+4≤21;decide) (arCp_set q 1 none _) ?_
 have hoff:∀ b o,q.sp=some ⟨b,o,none⟩→¬ SFoot q.sb b:=fun b o hb hi=>by
  rcases Own.cases h3.stm.disks with ⟨h0,_⟩ | ⟨b',cur,h0,_,hg,_⟩
  ·rw [h0] at hb;cases hb
  ·rw [h0] at hb;cases hb
   exact h3.stm.set.typ hg (by decide) (by decide) (by decide) hi
 refine st_Fence (q:=q.sb) h3.stm.set h3.stm.disks.sl h3.stm.disks.cap.1 hoff hok1 he fun w4 hS4 k4=>zA.2 ?_
 have hS4:SetAt w4 q.sb (fenceS ⟨ss1.ds,m.pw⟩ e).2:=hS4
 have h4:=h3.ofSet hS4 k4
 have v4:=v3.keep k4 (four_S h3.stm.set)
 have hb4:=k4.has hb3 (four_S h3.stm.set _ _ _ hb3 (Or.inr (Or.inr (Or.inr rfl))))
 have k04:=ArS.trans k03 (ArS.ofS k4)
 rw [fence_pw] at h4
 have h4:ArC w4 q 1 none { s with ds:=(fenceS ⟨ss1.ds,m.pw⟩ e).2.ds,ps:={ s.ps with pw:=m.pw,xa:=m.xa,xb:=m.xb } }:=h4
 clear h3 v3 hb3 k03 k4 hS4 hoff
 intro d
 have kd:=Keep.drew (fun _=>False) w4 d
 have h5:=h4.keep0 kd
 have v5:=v4.keep kd (fun _ _ _ _ _=>by simp)
 have hb5:Has (w4.dr d) b (.cells #[.bool f0,.bool f1] 138 (0,0)):=hb4
 have k05:=ArS.trans k04 (ArS.none kd)
 clear h4 v4 hb4 k04 kd
 generalize w4.dr d=w5 at *
 generalize hds:(fenceS ⟨ss1.ds,m.pw⟩ e).2.ds=ds at *
 refine ⟨fun w'=>Has w' q.a (.cells (arCp q 1 none { s with ds:=ds,ps:={ s.ps with pw:=m.pw,xa:=m.xa,xb:=m.xb } }) 143 (0,0)),h5.cells,by decide,?_⟩
 refine LdV_of (v:=.pointer (some ⟨q.pb.a,0,none⟩)) (fun w' hw=>⟨_,_,_,hw,rfl⟩) (OpN_some.2 ⟨by decide,?_⟩)
 refine LdV_of (v:=.pointer (some ⟨q.pb.b,0,none⟩)) (fun w' hw=>⟨_,_,_,hw,rfl⟩) (OpN_some.2 ?_)
 refine LdV_of (v:=.int .i64 q.pb.room) (fun w' hw=>⟨_,_,_,hw,rfl⟩) (zA.2 ?_)
 have lists5:=lists_of v5.l.sl v5.q fun i a rs x y=>(v5.r i a rs x y).sl
 have htot:total LL≤10000000:=by unfold total;omega
 refine merge_Top lists5 (by omega) htot fun w6 k6=>zA.2 ⟨k6.has h5.cells (by simp),?_⟩
 have lists6:=lists_of (v5.keep k6 (fun _ _ _ _ _=>by simp)).l.sl v5.q fun i a rs x y=>((v5.keep k6 (fun _ _ _ _ _=>by simp)).r i a rs x y).sl
 refine merge_Dirty lists6 (by omega) htot fun dp dl dc rs w7 hp7 hv7 o7 k7=>zC.2 ⟨(k6.trans k7).has h5.cells (by simp),?_⟩
 have o7:OwnL rLay w7 w6.heap.size 246 dp dl dc rs:=o7
 have h7:=h5.keep0 (k6.trans k7)
 have hleft:IsLeft LL rs:=⟨hp7,hv7⟩
 obtain ⟨r1,r2,r3⟩:=hrs rs hleft
 obtain ⟨c1,c2⟩:=hcomp rs hleft
 have k07:=ArS.trans k05 (ArS.none (k6.trans k7))
 have hb7:=(k6.trans k7).has hb5 (by simp)
 clear h5 v5 hb5 k05 lists5 lists6
 have hdl:dl=rs.length:=o7.length
 have hlow:w.heap.size≤w7.heap.size:=k07.size
 refine pr_Resume (epoch:=e) (last:=topL LL) h7.stm.mems.main h7.stm.mems.rams h7.stm.mems.ne h7.stm.mems.fit h7.stm.mems.form hroom.1 hroom.2 h7.stm.mems.low o7.sl r1 r2 (by rw [hdl];exact r3) fun p c mp w8 hp8 k8 hpl hml=>T2_mk.2 (OpP_some.2 (zA.2 ⟨k8.has h7.cells (by simp),(Cb_false (p:=_)).2 ?_⟩))
 have h8:=h7.keep0 k8
 have hb8:=k8.has hb7 (by simp)
 have k08:=ArS.trans k07 (ArS.none k8)
 have hP8:ArP w8 (q.re p c mp) 1 none { s with ds:=ds,ps:=⟨esOf rs,topL LL,e,true,true,m.pw,m.xa,m.xb⟩ }:=⟨h8.cells,h8.stm.set,h8.stm.disks,hp8,h8.desk,h8.marks⟩
 have hpl0:w.heap.size≤p:=by omega
 have hml0:w.heap.size≤mp:=by omega
 clear h7 h8 hb7 k07 k8 hp8 o7
 have nP:∀ {w1:World} {s1:AS},ArP w1 (q.re p c mp) 1 none s1→∀ {cs:Array Value},Has w1 b (.cells cs 138 (0,0))→¬ PFoot (q.re p c mp).pb w1 b:=fun ha _ hb=>PFoot.not hb (by decide) ha.pair (by decide) (by decide) (by decide)
 refine LoopC_of (σ:=Int×Unit) (fun st w'=>∃ j:Nat,st.1=(j:Int)∧j≤2∧ArP w' (q.re p c mp) 1 none { s with ds:=ds,ps:=⟨esOf rs,topL LL,e,if 0<j then f0 else true,if 1<j then f1 else true,m.pw,m.xa,m.xb⟩ }∧Has w' b (.cells #[.bool f0,.bool f1] 138 (0,0))∧Keep (ArS q w) w w') (fun st _=>(2-st.1).toNat) ⟨0,rfl,by omega,hP8,hb8,k08⟩ ?_
 clear hP8 hb8 k08
 rintro _ ⟨i,u2⟩ w9 ⟨j,hi,hj,h9,hb9,k09⟩
 simp only at hi ⊢
 subst hi
 have hj3:j=0∨j=1∨j=2:=by omega
 rcases hj3 with rfl | rfl | rfl
 ·refine (Cb_true (q:=_)).2 ⟨by decide,?_⟩
  refine LdV_has (v:=.bool f0) hb9 rfl (OpB_bool.2 ?_)
  have fin:∀ {w':World},ArP w' (q.re p c mp) 1 none { s with ds:=ds,ps:=⟨esOf rs,topL LL,e,f0,true,m.pw,m.xa,m.xb⟩ }→Has w' b (.cells #[.bool f0,.bool f1] 138 (0,0))→Keep (ArS q w) w w'→∃ m',m'<(2-((0:Nat):Int)).toNat∧((∃ j:Nat,IntKind.wrap .i64 (((0:Nat):Int)+1)=(j:Int)∧j≤2∧ArP w' (q.re p c mp) 1 none { s with ds:=ds,ps:=⟨esOf rs,topL LL,e,if 0<j then f0 else true,if 1<j then f1 else true,m.pw,m.xa,m.xb⟩ }∧Has w' b (.cells #[.bool f0,.bool f1] 138 (0,0))∧Keep (ArS q w) w w')∧(2-IntKind.wrap .i64 (((0:Nat):Int)+1)).toNat=m'):=fun ha hb kk=>⟨1,by decide,⟨1,by decide,by decide,ha,hb,kk⟩,by decide⟩
  cases f0 with
  | true=>exact (Cb_false (p:=_)).2 (fin h9 hb9 k09)
  | false =>
   refine (Cb_true (q:=_)).2 (pr_Leave h9.pair false fun w10 p10 k10=>zA.2 ?_)
   exact fin (h9.ofPair p10 k10) (k10.has hb9 (nP h9 hb9)) (ArS.ofPair k09 hpl0 hml0 k10)
 ·refine (Cb_true (q:=_)).2 ⟨by decide,?_⟩
  refine LdV_has (v:=.bool f1) hb9 rfl (OpB_bool.2 ?_)
  have fin:∀ {w':World},ArP w' (q.re p c mp) 1 none { s with ds:=ds,ps:=⟨esOf rs,topL LL,e,f0,f1,m.pw,m.xa,m.xb⟩ }→Has w' b (.cells #[.bool f0,.bool f1] 138 (0,0))→Keep (ArS q w) w w'→∃ m',m'<(2-((1:Nat):Int)).toNat∧((∃ j:Nat,IntKind.wrap .i64 (((1:Nat):Int)+1)=(j:Int)∧j≤2∧ArP w' (q.re p c mp) 1 none { s with ds:=ds,ps:=⟨esOf rs,topL LL,e,if 0<j then f0 else true,if 1<j then f1 else true,m.pw,m.xa,m.xb⟩ }∧Has w' b (.cells #[.bool f0,.bool f1] 138 (0,0))∧Keep (ArS q w) w w')∧(2-IntKind.wrap .i64 (((1:Nat):Int)+1)).toNat=m'):=fun ha hb kk=>⟨0,by decide,⟨2,by decide,by decide,ha,hb,kk⟩,by decide⟩
  cases f1 with
  | true=>exact (Cb_false (p:=_)).2 (fin h9 hb9 k09)
  | false =>
   have hf0:f0=true:=by rcases hf01 with h | h;exact h;cases h
   subst hf0
   refine (Cb_true (q:=_)).2 (pr_Leave h9.pair true fun w10 p10 k10=>zA.2 ?_)
   exact fin (h9.ofPair p10 k10) (k10.has hb9 (nP h9 hb9)) (ArS.ofPair k09 hpl0 hml0 k10)
 refine (Cb_false (p:=_)).2 ?_
 have h9:ArP w9 (q.re p c mp) 1 none { s with ds:=ds,ps:=resP rs (topL LL) e f0 f1 m }:=h9
 have hlenE:(esOf rs).length=rs.length:=by unfold esOf;rw [List.length_map]
 have hep:epR (resP rs (topL LL) e f0 f1 m)=⟨6,e,0,sec []⟩:=by
  unfold epR
  show (⟨6,IntKind.wrap .u64 e,0,sec []⟩:Rec)=_
  rw [wrapU64 (by omega) (by omega)]
 refine pr_Compact (q:=(q.re p c mp).pb) (s:=resP rs (topL LL) e f0 f1 m) (D:=rs) h9.pair (by show (esOf rs).length≤_;omega) (fun x hx=>?_) (esOf_isD (fun r hr=>(r1 r hr).1) hv7) fun w10 p10 k10=>?_
 ·have hx:x∈esOf rs:=hx
  unfold esOf at hx
  obtain ⟨r,hr,rfl⟩:=List.mem_map.1 hx
  exact (r1 r hr).2.1
 have hsz:(q.re p c mp).pb.sz=q.pb.sz:=rfl
 have hup:upS (resP rs (topL LL) e f0 f1 m) false=upsS f0 f1:=rfl
 rw [hep,hsz,hup] at p10 ⊢
 rw [c1]
 refine zA.2 ((Cb_false (p:=_)).2 ?_)
 have h10:=h9.ofPair p10 k10
 have hb10:=k10.has hb9 (nP h9 hb9)
 have k010:=ArS.ofPair k09 hpl0 hml0 k10
 clear h9 hb9 k09 k10 p10
 have hdsE:(fenceS ⟨ss1.ds,(compS q.pb.sz (⟨6,e,0,sec []⟩::rs) (upsS f0 f1) (resP rs (topL LL) e f0 f1 m)).2.pw⟩ e).2.ds=ds:=by
  rw [← hds]
  exact fence_same _ _ _ c2 hon1 e
 have hKK:=hK p c mp rs
 unfold recvA at hKK
 rw [hdsE] at hKK
 generalize (compS q.pb.sz (⟨6,e,0,sec []⟩::rs) (upsS f0 f1) (resP rs (topL LL) e f0 f1 m)).2=ps at *
 intro d2
 have kd:=Keep.drew (fun _=>False) w10 d2
 have h11:=h10.keep0 kd
 have hb11:Has (w10.dr d2) b (.cells #[.bool f0,.bool f1] 138 (0,0)):=hb10
 have k011:=ArS.trans k010 (ArS.none kd)
 clear h10 hb10 k010 kd
 generalize w10.dr d2=w11 at *
 have hba:b≠q.a:=typ_ne hb11 h11.cells (by decide)
 refine ⟨fun w'=>Has w' b (.cells #[.bool f0,.bool f1] 138 (0,0)),hb11,?_⟩
 refine LdA_of (cs:=#[.bool f0,.bool f1]) rfl (fun w' hw=>⟨_,_,_,hw,by show 0+2≤2;decide,rfl⟩) ?_
 refine StV_of h11.cells (by show 9<21;decide) rfl ?_
 have hset1:(arCp (q.re p c mp) 1 none { s with ds:=ds,ps:=ps }).setIfInBounds 9 (.pointer (some ⟨p,0,none⟩))=arCp (q.re p c mp) 1 (some ⟨p,0,none⟩) { s with ds:=ds,ps:=ps }:=rfl
 rw [hset1]
 have h12:=h11.put (lk':=1) (pp':=some ⟨p,0,none⟩) (s':={ s with ds:=ds,ps:=ps }) rfl rfl rfl rfl
 have kp:∀ (w1:World) (x:Obj),Has w1 b (.cells #[.bool f0,.bool f1] 138 (0,0))→Has (w1.upd q.a x) b (.cells #[.bool f0,.bool f1] 138 (0,0)):=fun w1 x hb=>(Keep.one w1 q.a x).has hb hba
 have hb12:=kp _ (.cells (arCp (q.re p c mp) 1 (some ⟨p,0,none⟩) { s with ds:=ds,ps:=ps }) 143 (0,0)) hb11
 have k012:=ArS.trans k011 (ArS.ofA (Keep.one w11 q.a (.cells (arCp (q.re p c mp) 1 (some ⟨p,0,none⟩) { s with ds:=ds,ps:=ps }) 143 (0,0))))
 have e12:(q.re p c mp).a=q.a:=rfl
 rw [e12] at h12
 generalize w11.upd q.a _=w12 at *
 refine ⟨hb12,?_⟩
 refine StA_of (c:=arCp (q.re p c mp) 1 (some ⟨p,0,none⟩) { s with ds:=ds,ps:=ps }) h12.cells rfl (by show 10+2≤21;decide) (by intro v hv;simp only [List.mem_cons,List.not_mem_nil,or_false] at hv;rcases hv with rfl | rfl <;> rfl) ?_
 have hset2:spl (arCp (q.re p c mp) 1 (some ⟨p,0,none⟩) { s with ds:=ds,ps:=ps }) 10 #[.bool f0,.bool f1]=arCp (q.re p c mp) 1 (some ⟨p,0,none⟩) { s with ds:=ds,ps:=ps,ua:=f0,ub:=f1 }:=rfl
 rw [hset2]
 have h13:=h12.put (lk':=1) (pp':=some ⟨p,0,none⟩) (s':={ s with ds:=ds,ps:=ps,ua:=f0,ub:=f1 }) rfl rfl rfl rfl
 have hb13:=kp _ (.cells (arCp (q.re p c mp) 1 (some ⟨p,0,none⟩) { s with ds:=ds,ps:=ps,ua:=f0,ub:=f1 }) 143 (0,0)) hb12
 have k013:=ArS.trans k012 (ArS.ofA (Keep.one w12 q.a (.cells (arCp (q.re p c mp) 1 (some ⟨p,0,none⟩) { s with ds:=ds,ps:=ps,ua:=f0,ub:=f1 }) 143 (0,0))))
 rw [e12] at h13
 generalize w12.upd q.a _=w13 at *
 refine ⟨hb13,?_⟩
 refine LoopC_of (σ:=Int×Unit) (fun st w'=>∃ j:Nat,st.1=(j:Int)∧j≤2∧ArP w' (q.re p c mp) 1 (some ⟨p,0,none⟩) { s with ds:=ds,ps:=ps,ua:=f0,ub:=f1,la:=if 0<j then f0 else s.la,ea:=if 0<j then e else s.ea,lb:=if 1<j then f1 else s.lb,eb:=if 1<j then e else s.eb }∧Has w' b (.cells #[.bool f0,.bool f1] 138 (0,0))∧Keep (ArS q w) w w') (fun st _=>(2-st.1).toNat) ⟨0,rfl,by omega,h13,hb13,k013⟩ ?_
 clear h11 h12 h13 hb11 hb12 hb13 k011 k012 k013 hset1 hset2
 rintro _ ⟨i,u3⟩ w14 ⟨j,hi,hj,h14,hb14,k014⟩
 simp only at hi ⊢
 subst hi
 have hj3:j=0∨j=1∨j=2:=by omega
 rcases hj3 with rfl | rfl | rfl
 ·refine (Cb_true (q:=_)).2 fun d3 _=>⟨by decide,?_⟩
  have kd:=Keep.drew (fun _=>False) w14 d3
  have h15:=h14.keep0 kd
  have hb15:Has (w14.dr d3) b (.cells #[.bool f0,.bool f1] 138 (0,0)):=hb14
  have k015:=ArS.trans k014 (ArS.none kd)
  clear h14 hb14 k014 kd
  generalize w14.dr d3=w15 at *
  refine LdV_has (v:=.bool f0) hb15 rfl (OpB_bool.2 ?_)
  refine DoQ_of (v:=.agg #[.bool f0,.int .u32 e]) (fun _=>run_build _ _ _ _ (by kernel_rfl)) (OpA_agg.2 ⟨rfl,by decide,?_⟩)
  refine StA_of h15.cells rfl (by show 13+2≤21;decide) (by intro v hv;simp only [List.mem_cons,List.not_mem_nil,or_false] at hv;rcases hv with rfl | rfl <;> rfl) ?_
  have h16:=h15.put (lk':=1) (pp':=some ⟨p,0,none⟩) (s':={ s with ds:=ds,ps:=ps,ua:=f0,ub:=f1,la:=f0,ea:=e,lb:=s.lb,eb:=s.eb }) rfl rfl rfl rfl
  have hb16:=kp _ (.cells (arCp (q.re p c mp) 1 (some ⟨p,0,none⟩) { s with ds:=ds,ps:=ps,ua:=f0,ub:=f1,la:=f0,ea:=e,lb:=s.lb,eb:=s.eb }) 143 (0,0)) hb15
  have k016:=ArS.trans k015 (ArS.ofA (Keep.one w15 q.a (.cells (arCp (q.re p c mp) 1 (some ⟨p,0,none⟩) { s with ds:=ds,ps:=ps,ua:=f0,ub:=f1,la:=f0,ea:=e,lb:=s.lb,eb:=s.eb }) 143 (0,0))))
  exact ⟨1,by decide,⟨1,by decide,by decide,h16,hb16,k016⟩,by decide⟩
 ·refine (Cb_true (q:=_)).2 fun d3 _=>⟨by decide,?_⟩
  have kd:=Keep.drew (fun _=>False) w14 d3
  have h15:=h14.keep0 kd
  have hb15:Has (w14.dr d3) b (.cells #[.bool f0,.bool f1] 138 (0,0)):=hb14
  have k015:=ArS.trans k014 (ArS.none kd)
  clear h14 hb14 k014 kd
  generalize w14.dr d3=w15 at *
  refine LdV_has (v:=.bool f1) hb15 rfl (OpB_bool.2 ?_)
  refine DoQ_of (v:=.agg #[.bool f1,.int .u32 e]) (fun _=>run_build _ _ _ _ (by kernel_rfl)) (OpA_agg.2 ⟨rfl,by decide,?_⟩)
  refine StA_of h15.cells rfl (by show 15+2≤21;decide) (by intro v hv;simp only [List.mem_cons,List.not_mem_nil,or_false] at hv;rcases hv with rfl | rfl <;> rfl) ?_
  have h16:=h15.put (lk':=1) (pp':=some ⟨p,0,none⟩) (s':={ s with ds:=ds,ps:=ps,ua:=f0,ub:=f1,la:=f0,ea:=e,lb:=f1,eb:=e }) rfl rfl rfl rfl
  have hb16:=kp _ (.cells (arCp (q.re p c mp) 1 (some ⟨p,0,none⟩) { s with ds:=ds,ps:=ps,ua:=f0,ub:=f1,la:=f0,ea:=e,lb:=f1,eb:=e }) 143 (0,0)) hb15
  have k016:=ArS.trans k015 (ArS.ofA (Keep.one w15 q.a (.cells (arCp (q.re p c mp) 1 (some ⟨p,0,none⟩) { s with ds:=ds,ps:=ps,ua:=f0,ub:=f1,la:=f0,ea:=e,lb:=f1,eb:=e }) 143 (0,0))))
  exact ⟨0,by decide,⟨2,by decide,by decide,h16,hb16,k016⟩,by decide⟩
 refine (Cb_false (p:=_)).2 (Ret_nil.2 ?_)
 exact hKK w14 hleft (by rw [← hbE];exact hpl0) (by rw [← hbE];exact hml0) h14.at k014
end calls
theorem iLayT:LayT Tryz.prog iLay 69 3 8:=⟨by kernel_rfl,⟨(Tryz.prog.info? 3).get (by kernel_rfl),((Tryz.prog.info? 3).get (by kernel_rfl)).zero.get (by kernel_rfl),by kernel_rfl,by kernel_rfl,by kernel_rfl,by kernel_rfl,by kernel_rfl⟩⟩
theorem rrLayT:LayT Tryz.prog hLay 158 113 24:=⟨by kernel_rfl,⟨(Tryz.prog.info? 113).get (by kernel_rfl),((Tryz.prog.info? 113).get (by kernel_rfl)).zero.get (by kernel_rfl),by kernel_rfl,by kernel_rfl,by kernel_rfl,by kernel_rfl,by kernel_rfl⟩⟩
theorem bsl_i1 (x:Int) (w:World):(Instr.buildSlice 69 1 #[(0,.int .i64 x)]).run Tryz.prog w=.ok (.slice (some ⟨w.heap.size,0,none⟩) 1 1) (w.alloc (.cells #[.int .i64 x] 3)) :=
 run_buildSlice w 69 3 1 _ #[.int .i64 x] ((Tryz.prog.info? 3).get (by kernel_rfl)) (((Tryz.prog.info? 3).get (by kernel_rfl)).zero.get (by kernel_rfl)) (by kernel_rfl) (by kernel_rfl) (by kernel_rfl) (by decide +kernel) (by decide +kernel) (by kernel_rfl)
theorem bsl_rr1 (p:Option Addr) (l c:Nat) (w:World):(Instr.buildSlice 158 1 #[(0,.slice p l c)]).run Tryz.prog w=.ok (.slice (some ⟨w.heap.size,0,none⟩) 1 1) (w.alloc (.cells #[.slice p l c] 113)) :=
 run_buildSlice w 158 113 1 _ #[.slice p l c] ((Tryz.prog.info? 113).get (by kernel_rfl)) (((Tryz.prog.info? 113).get (by kernel_rfl)).zero.get (by kernel_rfl)) (by kernel_rfl) (by kernel_rfl) (by kernel_rfl) (by decide +kernel) (by decide +kernel) (by kernel_rfl)
def validK (key:Int) (L:List Rec):Bool:=decide (key=0) || L.any fun x=>decide (x.kind=6) && decide (x.ver=key)
abbrev StS:=(Option Addr×Nat×Nat)×(Option Addr×Nat×Nat)×Int×Unit
def StT (b3:Nat) (n3:Int) (st:StS) (b4 o3:Nat) (w:World) (K4:StS→World→Prop):Prop :=
 Req (0≤st.2.2.1∧st.2.2.1<2) (LdV b3 (0+Int.toNat st.2.2.1*1) (At w) fun v12=>OpB v12 fun g=>Cb (!g) (K4 ((st.1.1,st.1.2.1,st.1.2.2),((st.2.1.1,st.2.1.2.1,st.2.1.2.2),(IntKind.wrap .i64 (st.2.2.1+1),()))) w)
  (zB Tryz.prog 89 #[.pointer (some ⟨b4,o3,none⟩)] w fun v13 w=>zB Tryz.prog 62 #[.pointer (some ⟨b4,o3,none⟩)] w fun v14 w=>OpS v14 fun p l c =>
   zB Tryz.prog 90 #[.slice p l c,.int .u32 n3] w fun v15 w=>OpB v15 fun g1=>Cb g1
    (DoV Tryz.prog (Instr.buildSlice 69 1 #[(0,.int .i64 st.2.2.1)]) w fun v16 w=>OpS v16 fun p1 l1 c1=>DoV Tryz.prog (Builtin.append_ #[69,69] 69 #[.slice st.1.1 st.1.2.1 st.1.2.2,.slice p1 l1 c1]) w fun v17 w=>OpS v17 fun p2 l2 c2 =>
     DoV Tryz.prog (Instr.buildSlice 158 1 #[(0,.slice p l c)]) w fun v18 w=>OpS v18 fun p3 l3 c3=>DoV Tryz.prog (Builtin.append_ #[158,158] 158 #[.slice st.2.1.1 st.2.1.2.1 st.2.1.2.2,.slice p3 l3 c3]) w fun v19 w=>OpS v19 fun p4 l4 c4 =>
      K4 ((p2,l2,c2),((p4,l4,c4),(IntKind.wrap .i64 (st.2.2.1+1),()))) w)
    (K4 ((st.1.1,st.1.2.1,st.1.2.2),((st.2.1.1,st.2.1.2.1,st.2.1.2.2),(IntKind.wrap .i64 (st.2.2.1+1),()))) w)))
structure StL (w:World) (base:Nat) (st:StS) (ss:List Bool) (Ls:Bool→List Rec):Prop where
 s:OwnL iLay w base 3 st.1.1 st.1.2.1 st.1.2.2 (ss.map sideN)
 l:∃ Q,OwnL hLay w base 113 st.2.1.1 st.2.1.2.1 st.2.1.2.2 Q∧Q.length=ss.length∧∀ (i:Nat) (q:Option Addr×Nat×Nat) (f:Bool),Q[i]? = some q→ss[i]? = some f→SlT rLay w 246 q.1 q.2.1 q.2.2 (Ls f)
theorem StL.keep {w w':World} {base:Nat} {st:StS} {ss:List Bool} {Ls:Bool→List Rec} {S:Nat→Prop} (h:StL w base st ss Ls) (k:Keep S w w')
  (hS:∀ (i:Nat) (cs:Array Value) (t:TypeId),Has w i (.cells cs t (0,0))→t=3∨t=113∨t=246∨t=138→¬ S i):StL w' base st ss Ls:=by
 obtain ⟨Q,o,hQ,hr⟩:=h.l
 refine ⟨h.s.keep k fun b hb=>?_,Q,o.keep k fun b hb=>?_,hQ,fun i a f x y=>(hr i a f x y).keepB k fun i cur hi=>hS i cur _ hi (Or.inr (Or.inr (Or.inl rfl)))⟩
 ·obtain ⟨_,cur,hh⟩:=own_has h.s b 0 hb
  exact hS b cur _ hh (Or.inl rfl)
 ·obtain ⟨_,cur,hh⟩:=own_has o b 0 hb
  exact hS b cur _ hh (Or.inr (Or.inl rfl))
theorem StL.idx {w:World} {base:Nat} {a b:Option Addr×Nat×Nat} {i j:Int} {u u':Unit} {ss:List Bool} {Ls:Bool→List Rec} (h:StL w base (a,(b,(i,u))) ss Ls):StL w base (a,(b,(j,u'))) ss Ls:=⟨h.s,h.l⟩
theorem StL.rv {w:World} {base:Nat} {st:StS} {ss:List Bool} {Ls:Bool→List Rec} (h:StL w base st ss Ls):∃ Q,RvL w st.1.1 st.1.2.1 st.1.2.2 ss st.2.1.1 st.2.1.2.1 st.2.1.2.2 Q (ss.map Ls):=by
 obtain ⟨Q,o,hQ,hr⟩:=h.l
 refine ⟨Q,SlT.of h.s,SlT.of o,by rw [List.length_map];exact hQ,fun i a rs x y=>?_⟩
 rw [List.getElem?_map] at y
 cases hf:ss[i]? with
 | none=>rw [hf] at y;cases y
 | some f =>
  rw [hf] at y
  cases y
  exact hr i a f x hf
def stA (s:AS) (f:Bool) (go:Bool) (L:List Rec):AS:={ s with ps:={ s.ps with xa:=cond (go && !f) (L.flatMap packB) s.ps.xa,xb:=cond (go && f) (L.flatMap packB) s.ps.xb } }
section calls
variable {w:World} {q:AB} {s:AS}
theorem start_step (h:ArC w q 1 none s) {f g:Bool} {L:List Rec} (hk:KeptB (cond f s.ps.xb s.ps.xa) L) {Ls:Bool→List Rec} (hLs:Ls f=L) {key:Int} (hkey:0≤key∧key≤4294967295) {b3 base:Nat} {bs:Array Value} (hb3:Has w b3 (.cells bs 138 (0,0))) (hg:bs[0+Int.toNat (sideN f)*1]? = some (.bool g)) {st:StS} {ss:List Bool} (hi:st.2.2.1=sideN f) (hss:ss.length≤1) (hL:StL w base st ss Ls) (hbase:base≤w.heap.size) (hmsb:∀ b,q.ms=some ⟨b,0,none⟩→b<base) {K4:StS→World→Prop}
  (hK:∀ st' w',st'.2.2.1=sideN f+1→StL w' base st' (ss++if (g && validK key L)=true then [f] else []) Ls→ArC w' q 1 none (stA s f g L)→Has w' b3 (.cells bs 138 (0,0))→Keep (fun i=>ArS q w i∨base≤i) w w'→K4 st' w') :
  StT b3 key st (ramM q.mb f) 0 w K4:=by
 obtain ⟨⟨sp,sl,sc⟩,⟨lp,ll,lc⟩,i,u⟩:=st
 simp only at hi
 subst hi
 have hwr:IntKind.wrap .i64 (sideN f+1)=sideN f+1:=by cases f <;> decide
 unfold StT
 simp only [hwr]
 refine ⟨side_rng f,?_⟩
 refine LdV_has (v:=.bool g) hb3 hg (OpB_bool.2 ?_)
 cases g with
 | false =>
  refine (Cb_true (q:=_)).2 ?_
  refine hK _ w rfl (by rw [show (ss++if (false && validK key L)=true then [f] else [])=ss by simp];exact hL.idx) ?_ hb3 (Keep.refl _ _)
  cases f <;> exact h
 | true =>
 refine (Cb_false (p:=_)).2 ?_
 refine mem_trim h.stm.mems f hk fun w1 hM1 k1=>?_
 have h1:=h.ofMems hM1 k1
 have hL1:=hL.keep k1 (four_M h.stm.mems)
 have hb1:=k1.has hb3 (four_M h.stm.mems _ _ _ hb3 (Or.inr (Or.inr (Or.inr rfl))))
 have hst:({ s with ps:={ s.ps with pw:=(trimM ⟨s.ss.pw,s.ps.xa,s.ps.xb⟩ f (L.flatMap packB)).pw,xa:=(trimM ⟨s.ss.pw,s.ps.xa,s.ps.xb⟩ f (L.flatMap packB)).xa,xb:=(trimM ⟨s.ss.pw,s.ps.xa,s.ps.xb⟩ f (L.flatMap packB)).xb } }:AS)=stA s f true L:=by cases f <;> rfl
 rw [hst] at h1
 have hk1:KeptB (cond f (stA s f true L).ps.xb (stA s f true L).ps.xa) L:=by
  have:cond f (stA s f true L).ps.xb (stA s f true L).ps.xa=L.flatMap packB:=by cases f <;> rfl
  rw [this]
  exact KeptB.mk hk.1
 refine mem_records h1.stm.mems f hk1 fun rp rc w2 o2 k2=>zC.2 ?_
 have hlenL:L.length≤65536:=by
  have hfit:=h1.stm.mems.fit
  have hform:=h1.stm.mems.form
  have:((L.flatMap packB).length:Int)≤65536:=by
   cases f
   ·exact Int.le_trans hfit.1 hform.2
   ·exact Int.le_trans hfit.2 hform.2
  rw [recs_len] at this
  omega
 have k02:Keep (ArS q w) w w2:=ArS.trans (ArS.ofM k1) (ArS.none k2)
 have h2:=h1.keep0 k2
 have hL2:=hL1.keep k2 (fun _ _ _ _ _=>by simp)
 have hb2:=k2.has hb1 (by simp)
 clear hL1 hb1
 refine merge_ValidL (by have:=o2.cap;omega) o2.sl hkey fun w3 k3=>OpB_bool.2 ?_
 have h3:=h2.keep0 k3
 have hL3:=hL2.keep k3 (fun _ _ _ _ _=>by simp)
 have hb3':=k3.has hb2 (by simp)
 have o3:=o2.keep k3 (by simp)
 have k03:Keep (ArS q w) w w3:=ArS.trans k02 (ArS.none k3)
 have hbase3:base≤w3.heap.size:=Nat.le_trans hbase k03.size
 clear h1 h2 hL2 hb2 k02 o2 hM1
 have hval:(decide (key=0) || L.any fun x=>decide (x.kind=6) && decide (x.ver=key))=validK key L:=rfl
 rw [hval]
 refine Cb_of (fun hv=>?_) (fun hv=>?_)
 ·rw [hv] at hK
  obtain ⟨Q,oQ,hQ,hr⟩:=hL3.l
  have oQ:OwnL hLay w3 base 113 lp ll lc Q:=oQ
  have hsl:sl=ss.length:=by have:=hL3.s.length;simpa using this
  have hll:ll=ss.length:=by rw [← hQ];exact oQ.length
  refine ⟨_,_,bsl_i1 _ w3,zC.2 ?_⟩
  have k4:Keep (fun _=>False) w3 (w3.alloc (.cells #[.int .i64 (sideN f)] 3)):=Keep.new _ _ _
  have hb4:Has (w3.alloc (.cells #[.int .i64 (sideN f)] 3)) w3.heap.size (.cells #[.int .i64 (sideN f)] 3 (0,0)):=Has.new _ _
  have o4:OwnL iLay _ w3.heap.size 3 (some ⟨w3.heap.size,0,none⟩) 1 1 [sideN f]:=OwnL.mk (xs:=[sideN f]) (Nat.le_refl _) hb4 (by simp [maxLen]) rfl
  generalize w3.alloc (.cells #[.int .i64 (sideN f)] 3)=w4 at *
  have hs4:OwnL iLay w4 base 3 sp sl sc (ss.map sideN):=hL3.s.keep k4 (by simp)
  obtain ⟨p5,c5,w5,hr5,o5,k5,hp5⟩:=run_appendF (P:=Tryz.prog) iLayT hs4 o4.sl (ty:=69) (c2:=1) (by omega) (by simp only [maxLen];omega) (by have:=k4.size;omega)
  refine ⟨_,_,hr5,zC.2 ?_⟩
  refine ⟨_,_,bsl_rr1 _ _ _ w5,zC.2 ?_⟩
  have k6:Keep (fun _=>False) w5 (w5.alloc (.cells #[.slice rp L.length rc] 113)):=Keep.new _ _ _
  have hb6:Has (w5.alloc (.cells #[.slice rp L.length rc] 113)) w5.heap.size (.cells #[.slice rp L.length rc] 113 (0,0)):=Has.new _ _
  have o6:OwnL hLay _ w5.heap.size 113 (some ⟨w5.heap.size,0,none⟩) 1 1 [(rp,L.length,rc)]:=OwnL.mk (xs:=[(rp,L.length,rc)]) (Nat.le_refl _) hb6 (by simp [maxLen]) rfl
  generalize w5.alloc (.cells #[.slice rp L.length rc] 113)=w6 at *
  have nI:∀ {i:Nat} {cs:Array Value} {t:TypeId} {fz:Nat×Nat},Has w4 i (.cells cs t fz)→t≠3→¬ sp=some ⟨i,0,none⟩:=fun hi ht e=>by
   obtain ⟨_,cur,hh⟩:=own_has hs4 _ 0 e
   exact typ_ne hi hh ht rfl
  have oQ5:=(oQ.keep k4 (by simp)).keep k5 fun b hb e=>by
   obtain ⟨_,cur,hh⟩:=own_has (oQ.keep k4 (by simp)) b 0 hb
   exact nI hh (by decide) e
  have oQ6:=oQ5.keep k6 (by simp)
  obtain ⟨p7,c7,w7,hr7,o7,k7,hp7⟩:=run_appendF (P:=Tryz.prog) rrLayT oQ6 o6.sl (ty:=158) (c2:=1) (by omega) (by simp only [maxLen];omega) (by have:=(k4.size);have:=k5.size;have:=k6.size;omega)
  refine ⟨_,_,hr7,zC.2 ?_⟩
  have nQ:∀ {i:Nat} {cs:Array Value} {t:TypeId} {fz:Nat×Nat},Has w6 i (.cells cs t fz)→t≠113→¬ lp=some ⟨i,0,none⟩:=fun hi ht e=>by
   obtain ⟨_,cur,hh⟩:=own_has oQ6 _ 0 e
   exact typ_ne hi hh ht rfl
  have h4:=h3.keep0 k4
  have hA:∀ {w1 w2:World} {S:Nat→Prop},ArC w1 q 1 none (stA s f true L)→Keep S w1 w2→(∀ {i:Nat} {cs:Array Value} {t:TypeId} {fz:Nat×Nat},Has w1 i (.cells cs t fz)→t≠3→t≠113→¬ S i)→(∀ b,q.ms=some ⟨b,0,none⟩→¬ S b)→ArC w2 q 1 none (stA s f true L):=fun ha k hS hms=>by
   obtain ⟨pa,la,ca,pb,lb,cb,hra,hrb,hne⟩:=ha.stm.mems.rams
   refine ⟨k.has ha.cells (hS ha.cells (by decide) (by decide)),⟨ha.stm.set.keep k fun i hi=>?_,ha.stm.disks.keep k fun b hb=>?_,⟨k.has (show Has _ _ _ from ha.stm.mems.main) (hS (show Has _ _ _ from ha.stm.mems.main) (by decide) (by decide)),⟨pa,la,ca,pb,lb,cb,⟨k.has hra.cells (hS hra.cells (by decide) (by decide)),hra.row.keep k fun b hb=>?_⟩,⟨k.has hrb.cells (hS hrb.cells (by decide) (by decide)),hrb.row.keep k fun b hb=>?_⟩,hne⟩,ha.stm.mems.ne,ha.stm.mems.fit,ha.stm.mems.form,Nat.le_trans ha.stm.mems.low k.size⟩⟩,k.has (show Has _ _ _ from ha.desk) (hS (show Has _ _ _ from ha.desk) (by decide) (by decide)),ha.marks.keep k hms⟩
   ·intro hSi
    obtain ⟨cs,t,hc⟩:=ha.stm.set.blk hi
    by_cases h1:t=3
    ·subst h1
     exact absurd hi (ha.stm.set.typ hc (by decide) (by decide) (by decide))
    ·by_cases h2:t=113
     ·subst h2
      exact absurd hi (ha.stm.set.typ hc (by decide) (by decide) (by decide))
     ·exact hS hc h1 h2 hSi
   ·obtain ⟨_,cur,hh⟩:=own_has ha.stm.disks b 0 hb
    exact hS hh (by decide) (by decide)
   ·obtain ⟨_,cur,hh⟩:=own_has hra.row b 0 hb
    exact hS hh (by decide) (by decide)
   ·obtain ⟨_,cur,hh⟩:=own_has hrb.row b 0 hb
    exact hS hh (by decide) (by decide)
  have h5:=hA h4 k5 (fun hi h1 h2 e=>nI hi h1 e) fun b hb e=>by have:=hmsb b hb;have:=(hs4.lt e).1;omega
  have h6:=h5.keep0 k6
  have h7:=hA h6 k7 (fun hi h1 h2 e=>nQ hi h2 e) fun b hb e=>by have:=hmsb b hb;have:=(oQ6.lt e).1;omega
  have b5:=k5.has (k4.has hb3' (by simp)) (nI (k4.has hb3' (by simp)) (by decide))
  have b6:=k6.has b5 (by simp)
  have b7:=k7.has b6 (nQ b6 (by decide))
  have rows:∀ {a:Option Addr×Nat×Nat} {rs:List Rec},SlT rLay w3 246 a.1 a.2.1 a.2.2 rs→SlT rLay w7 246 a.1 a.2.1 a.2.2 rs:=fun x =>
   (((x.keepB k4 (by simp)).keepB k5 fun i cur hi=>nI hi (by decide)).keepB k6 (by simp)).keepB k7 fun i cur hi=>nQ hi (by decide)
  have o5':=(o5.keep k6 (by simp)).keep k7 fun b hb=>by
   obtain ⟨_,cur,hh⟩:=own_has (o5.keep k6 (by simp)) b 0 hb
   exact nQ hh (by decide)
  refine hK ((p5,sl+1,c5),(p7,ll+1,c7),sideN f+1,()) w7 rfl ?_ h7 b7 ?_
  ·rw [show (ss++if (true && true)=true then [f] else [])=ss++[f] by simp]
   refine ⟨by rw [List.map_append];exact o5',Q++[(rp,L.length,rc)],o7,by simp [hQ],fun i a g x y=>?_⟩
   by_cases hlt:i<ss.length
   ·rw [List.getElem?_append_left (by omega)] at x
    rw [List.getElem?_append_left hlt] at y
    exact rows (hr i a g x y)
   ·rw [List.getElem?_append_right (by omega)] at x
    rw [List.getElem?_append_right (by omega)] at y
    have h0:i-ss.length=0:=by
     have:=(List.getElem?_eq_some_iff.1 y).1
     simp at this
     omega
    rw [hQ,h0] at x
    rw [h0] at y
    cases x
    cases y
    rw [hLs]
    exact rows (a:=(rp,L.length,rc)) (SlT.of o3)
  ·refine ((((k03.mono fun i e=>Or.inl e).trans (k4.mono fun i e=>e.elim)).trans (k5.mono fun i e=>Or.inr (hs4.lt e).1)).trans (k6.mono fun i e=>e.elim)).trans (k7.mono fun i e=>Or.inr (oQ6.lt e).1)
 ·have hv:validK key L=false:=by simpa using hv
  rw [hv] at hK
  exact hK _ w3 rfl (by rw [show (ss++if (true && false)=true then [f] else [])=ss by simp];exact hL3.idx) h3 hb3' (k03.mono fun i e=>Or.inl e)
def srcsK (key:Int) (f0 f1:Bool) (Ls:Bool→List Rec):List Bool:=[false,true].filter fun f=>cond f f1 f0 && validK key (Ls f)
def trA (s:AS) (f0 f1:Bool) (Ls:Bool→List Rec):AS:={ s with la:=false,lb:=false,split:=false,d:=loseD s.d,ps:={ s.ps with pw:=⟨true,0,s.ps.pw.steps⟩,xa:=cond f0 ((Ls false).flatMap packB) s.ps.xa,xb:=cond f1 ((Ls true).flatMap packB) s.ps.xb } }
def StInv (w0:World) (q:AB) (s:AS) (f0 f1:Bool) (Ls:Bool→List Rec) (key:Int) (b3:Nat) (m:Nat) (st:StS) (w':World):Prop :=
 ∃ j:Nat,m=2-j∧st.2.2.1=(j:Int)∧j≤2∧StL w' w0.heap.size st (([false,true].take j).filter fun f=>cond f f1 f0 && validK key (Ls f)) Ls∧ArC w' q 1 none { s with la:=false,lb:=false,split:=false,d:=loseD s.d,ps:={ s.ps with pw:=⟨true,0,s.ps.pw.steps⟩,xa:=if 0<j then cond f0 ((Ls false).flatMap packB) s.ps.xa else s.ps.xa,xb:=if 1<j then cond f1 ((Ls true).flatMap packB) s.ps.xb else s.ps.xb } }∧Has w' b3 (.cells #[.bool f0,.bool f1] 138 (0,0))∧Keep (ArS q w0) w0 w'
variable {R:Value→World→Prop} {pp:Option Addr}
theorem ar_Start (h:ArC w q 0 pp s) {f0 f1:Bool} (hf01:f0=true∨f1=true) (hl0:s.later=0) (hkey:keyS s.ss≤4294967295) {Ls:Bool→List Rec} (hA:KeptB s.ps.xa (Ls false)) (hB:KeptB s.ps.xb (Ls true)) (hmsb:∀ b,q.ms=some ⟨b,0,none⟩→b<w.heap.size)
  (hE:srcsK (keyS s.ss) f0 f1 Ls=[]→∀ w',ArC w' q 0 none (trA s f0 f1 Ls)→Keep (ArS q w) w w'→R (.int .i64 13) w')
  (hR:srcsK (keyS s.ss) f0 f1 Ls≠[]→∀ w1 sp sl sc lp ll lc Q,sl≤2→ll≤2→RvL w1 sp sl sc (srcsK (keyS s.ss) f0 f1 Ls) lp ll lc Q ((srcsK (keyS s.ss) f0 f1 Ls).map Ls)→ArC w1 q 1 none (trA s f0 f1 Ls)→Keep (ArS q w) w w1→w.heap.size≤w1.heap.size →
   zB Tryz.prog 91 #[.pointer (some ⟨q.a,0,none⟩),.int .u32 (keyS s.ss),.agg #[.bool f0,.bool f1],.slice sp sl sc,.slice lp ll lc] w1 fun v20 w=>OpI .i64 v20 fun n4=>CallDV Tryz.prog 76 #[.pointer (some ⟨q.a,0,none⟩)] w fun w=>R (.int .i64 n4) w) :
  zB Tryz.prog 21 #[.pointer (some ⟨q.a,0,none⟩),.bool f0,.bool f1] w R:=by
 apply C_array_Array_Start
 unfold F_array_Array_Start
 have hkn:=keyS_nn s.ss
 refine ⟨fun st w'=>st.1=false∧w'=w,?_,?_⟩
 ·cases f0 with
  | true=>exact (Cb_false (p:=_)).2 ⟨rfl,rfl⟩
  | false =>
   have:f1=true:=by rcases hf01 with h | h;cases h;exact h
   subst this
   exact (Cb_true (q:=_)).2 ⟨rfl,rfl⟩
 rintro _ ⟨g0,u0⟩ w0 ⟨hg0,rfl⟩
 simp only at hg0 ⊢
 subst hg0
 refine (Cb_false (p:=_)).2 ?_
 refine arc_lock h fun w1 h1 k1=>?_
 have kA:∀ {w1 w2:World} {x:Obj},Keep (ArS q w0) w0 w1→w2=w1.upd q.a x→Keep (ArS q w0) w0 w2:=fun k e=>by subst e;exact ArS.trans k (ArS.ofA (Keep.one _ _ _))
 have k01:Keep (ArS q w0) w0 w1:=ArS.ofA k1
 refine ⟨fun _ w'=>ArC w' q 1 none { s with la:=false,lb:=false,split:=false }∧Keep (ArS q w0) w0 w',?_,?_⟩
 ·intro d
  have kd:=Keep.drew (fun _=>False) w1 d
  have h2:=h1.keep0 kd
  have k02:=ArS.trans k01 (ArS.none kd)
  generalize w1.dr d=w2 at *
  refine ⟨fun _=>True,trivial,by decide,?_⟩
  refine StV_of h2.cells (by show 13<21;decide) rfl ⟨trivial,by decide,?_⟩
  have h3:=h2.put (lk':=1) (pp':=pp) (s':={ s with la:=false }) rfl ⟨rfl,rfl⟩ rfl rfl
  have k03:=kA (x:=.cells (arCp q 1 pp { s with la:=false }) 143 (0,0)) k02 rfl
  have e3:(arCp q 1 pp s).setIfInBounds (13+Int.toNat 0*2) (.bool false)=arCp q 1 pp { s with la:=false }:=rfl
  rw [e3]
  generalize w2.upd q.a _=w3 at *
  refine StV_of h3.cells (by show 15<21;decide) rfl ⟨trivial,?_⟩
  have h4:=h3.put (lk':=1) (pp':=pp) (s':={ s with la:=false,lb:=false }) rfl ⟨rfl,rfl⟩ rfl rfl
  have k04:=kA (x:=.cells (arCp q 1 pp { s with la:=false,lb:=false }) 143 (0,0)) k03 rfl
  have e4:(arCp q 1 pp { s with la:=false }).setIfInBounds (13+Int.toNat 1*2) (.bool false)=arCp q 1 pp { s with la:=false,lb:=false }:=rfl
  rw [e4]
  generalize w3.upd q.a _=w4 at *
  refine StV_of h4.cells (by show 9<21;decide) rfl ⟨trivial,?_⟩
  have h5:=h4.put (lk':=1) (pp':=none) (s':={ s with la:=false,lb:=false }) rfl ⟨rfl,rfl⟩ rfl rfl
  have k05:=kA (x:=.cells (arCp q 1 none { s with la:=false,lb:=false }) 143 (0,0)) k04 rfl
  have e5:(arCp q 1 pp { s with la:=false,lb:=false }).setIfInBounds 9 (.pointer none)=arCp q 1 none { s with la:=false,lb:=false }:=rfl
  rw [e5]
  generalize w4.upd q.a _=w5 at *
  refine StV_of h5.cells (by show 17<21;decide) rfl ⟨trivial,?_⟩
  have h6:=h5.put (lk':=1) (pp':=none) (s':={ s with la:=false,lb:=false,split:=false }) rfl ⟨rfl,rfl⟩ rfl rfl
  have k06:=kA (x:=.cells (arCp q 1 none { s with la:=false,lb:=false,split:=false }) 143 (0,0)) k05 rfl
  have e6:(arCp q 1 none { s with la:=false,lb:=false }).setIfInBounds 17 (.bool false)=arCp q 1 none { s with la:=false,lb:=false,split:=false }:=rfl
  rw [e6]
  exact ⟨h6,k06⟩
 clear h1 k1 k01 kA h
 rintro _ _ w2 ⟨h2,k02⟩
 refine LdV_has (v:=.pointer (some ⟨q.dk,0,none⟩)) h2.cells rfl (OpN_some.2 ?_)
 refine rs_Lose h2.desk fun w3 d3 k3=>?_
 have h3:=h2.ofDesk d3 k3
 have k03:=ArS.trans k02 (k3.mono fun i e=>Or.inr e)
 clear h2 k02 k3 d3
 refine LdV_has (v:=.pointer (some ⟨q.pb.m,0,none⟩)) h3.cells rfl (OpN_some.2 ?_)
 refine ma_Restore h3.stm.mems.main fun w4 m4 k4 z4=>?_
 have hm4:MemsAt w4 q.mb ⟨⟨true,0,s.ps.pw.steps⟩,s.ps.xa,s.ps.xb⟩:=h3.stm.mems.pow k4 (fun i _ e=>e) m4
 have h4:=h3.ofMems hm4 (k4.mono fun i e=>Or.inl e)
 have k04:=ArS.trans k03 (ArS.ofM (k4.mono fun i e=>Or.inl e))
 have h4:ArC w4 q 1 none { s with la:=false,lb:=false,split:=false,d:=loseD s.d,ps:={ s.ps with pw:=⟨true,0,s.ps.pw.steps⟩ } }:=h4
 clear h3 k03 k4 m4 hm4
 refine LdV_has (v:=.int .i64 s.later) h4.cells rfl (zA.2 ?_)
 rw [hl0]
 refine ⟨fun _ w'=>w'=w4,(Cb_false (p:=_)).2 rfl,?_⟩
 rintro _ _ w5 rfl
 refine LdA_has (cs:=setV q.g q.sp q.g.d.toNat q.sc) h4.cells (by show 3+4≤21;decide) (arCp_set q 1 none _) ?_
 refine st_Key (q:=q.sb) h4.stm.set h4.stm.disks.sl h4.stm.disks.cap.1 fun w6 k6=>zA.2 ?_
 have h6:=h4.keep0 k6
 have k06:=ArS.trans k04 (ArS.none k6)
 clear h4 k04 k6
 have hks:keyS (AS.ss { s with la:=false,lb:=false,split:=false,d:=loseD s.d,ps:={ s.ps with pw:=⟨true,0,s.ps.pw.steps⟩ } })=keyS s.ss:=rfl
 rw [hks]
 generalize hkk:keyS s.ss=key at *
 refine DoQ_of (v:=.agg #[.bool f0,.bool f1]) (fun _=>run_build _ _ _ _ (by kernel_rfl)) (OpA_agg.2 ⟨rfl,?_⟩)
 refine copy_of (by kernel_rfl) rfl (by intro v hv;simp only [List.mem_cons,List.not_mem_nil,or_false] at hv;rcases hv with rfl | rfl <;> rfl) fun w7 hb7 k7 z7=>?_
 have h7:=h6.keep0 k7
 have k07:=ArS.trans k06 (ArS.none k7)
 have hlow7:w0.heap.size≤w6.heap.size:=k06.size
 clear h6 k06 k7
 generalize w6.heap.size=b3 at *
 refine LdA_has (cs:=#[.pointer (some ⟨q.pb.a,0,none⟩),.pointer (some ⟨q.pb.b,0,none⟩)]) h7.cells (by show 7+2≤21;decide) (arCp_ra q 1 none _) ?_
 have hz7:w0.heap.size≤w7.heap.size:=k07.size
 have kk:∀ {w1 w2:World},Keep (ArS q w0) w0 w1→Keep (fun i=>ArS q w1 i∨w0.heap.size≤i) w1 w2→Keep (ArS q w0) w0 w2:=fun {w1 w2} ka kb=>ka.trans' kb fun i hi e=>Classical.byContradiction fun hn=>by
  rcases e with e | e
  ·rcases e with (e | e | e | e | e | e | e | ⟨hb,cs,hc⟩) | e
   ·exact hn (Or.inl (Or.inl e))
   ·exact hn (Or.inl (Or.inr (Or.inl e)))
   ·exact hn (Or.inl (Or.inr (Or.inr (Or.inl e))))
   ·exact hn (Or.inl (Or.inr (Or.inr (Or.inr (Or.inl e)))))
   ·exact hn (Or.inl (Or.inr (Or.inr (Or.inr (Or.inr (Or.inl e))))))
   ·exact hn (Or.inl (Or.inr (Or.inr (Or.inr (Or.inr (Or.inr (Or.inl e)))))))
   ·exact hn (Or.inl (Or.inr (Or.inr (Or.inr (Or.inr (Or.inr (Or.inr (Or.inl e))))))))
   ·exact hn (Or.inl (Or.inr (Or.inr (Or.inr (Or.inr (Or.inr (Or.inr (Or.inr ⟨hb,cs,(ka.block i hi hn).symm.trans hc⟩))))))))
   ·exact hn (Or.inr e)
  ·omega
 refine ⟨StInv w0 q s f0 f1 Ls key b3,⟨2,0,rfl,rfl,by decide,⟨OwnL.nil,[],OwnL.nil,rfl,fun i a f x=>by simp at x⟩,h7,hb7,k07⟩,?_⟩
 clear h7 hb7 k07
 rintro _ m st w8 ⟨j,hm,hi,hj,hL8,h8,hb8,k08⟩
 have hz8:w0.heap.size≤w8.heap.size:=k08.size
 have hj3:j=0∨j=1∨j=2:=by omega
 obtain ⟨⟨sp,sl,sc⟩,⟨lp,ll,lc⟩,i,u⟩:=st
 simp only at hi ⊢
 subst hi
 rcases hj3 with rfl | rfl | rfl
 ·refine (Cb_true (q:=_)).2 ⟨by decide,⟨.pointer (some ⟨q.pb.a,0,none⟩),rfl,OpN_some.2 ?_⟩⟩
  show StT b3 key ((sp,sl,sc),(lp,ll,lc),((0:Nat):Int),u) (ramM q.mb false) 0 w8 fun s' w'=>∃ m',m'<m∧StInv w0 q s f0 f1 Ls key b3 m' s' w'
  refine start_step (f:=false) (g:=f0) (L:=Ls false) (Ls:=Ls) (key:=key) (base:=w0.heap.size) (bs:=#[.bool f0,.bool f1]) (st:=((sp,sl,sc),(lp,ll,lc),((0:Nat):Int),u)) h8 hA rfl ⟨hkn,hkey⟩ hb8 rfl rfl (by simp) hL8 hz8 hmsb fun st' w9 hi9 hL9 h9 hb9 k9=>?_
  refine ⟨1,by omega,1,rfl,hi9,by decide,?_,?_,hb9,kk k08 k9⟩
  ·have:(([false,true].take 0).filter fun f=>cond f f1 f0 && validK key (Ls f))++(if (f0 && validK key (Ls false))=true then [false] else [])=(([false,true].take 1).filter fun f=>cond f f1 f0 && validK key (Ls f)):=by
    show []++_=List.filter _ [false]
    rw [List.filter_cons]
    simp
   rw [← this]
   exact hL9
  ·have e:stA { s with la:=false,lb:=false,split:=false,d:=loseD s.d,ps:={ s.ps with pw:=⟨true,0,s.ps.pw.steps⟩,xa:=if 0<0 then cond f0 ((Ls false).flatMap packB) s.ps.xa else s.ps.xa,xb:=if 1<0 then cond f1 ((Ls true).flatMap packB) s.ps.xb else s.ps.xb } } false f0 (Ls false)={ s with la:=false,lb:=false,split:=false,d:=loseD s.d,ps:={ s.ps with pw:=⟨true,0,s.ps.pw.steps⟩,xa:=if 0<1 then cond f0 ((Ls false).flatMap packB) s.ps.xa else s.ps.xa,xb:=if 1<1 then cond f1 ((Ls true).flatMap packB) s.ps.xb else s.ps.xb } }:=by
    unfold stA
    cases f0 <;> rfl
   rw [← e]
   exact h9
 ·refine (Cb_true (q:=_)).2 ⟨by decide,⟨.pointer (some ⟨q.pb.b,0,none⟩),rfl,OpN_some.2 ?_⟩⟩
  show StT b3 key ((sp,sl,sc),(lp,ll,lc),((1:Nat):Int),u) (ramM q.mb true) 0 w8 fun s' w'=>∃ m',m'<m∧StInv w0 q s f0 f1 Ls key b3 m' s' w'
  refine start_step (f:=true) (g:=f1) (L:=Ls true) (Ls:=Ls) (key:=key) (base:=w0.heap.size) (bs:=#[.bool f0,.bool f1]) (st:=((sp,sl,sc),(lp,ll,lc),((1:Nat):Int),u)) h8 hB rfl ⟨hkn,hkey⟩ hb8 rfl rfl (Nat.le_trans (List.length_filter_le _ _) (by simp)) hL8 hz8 hmsb fun st' w9 hi9 hL9 h9 hb9 k9=>?_
  refine ⟨0,by omega,2,rfl,hi9,by decide,?_,?_,hb9,kk k08 k9⟩
  ·have:(([false,true].take 1).filter fun f=>cond f f1 f0 && validK key (Ls f))++(if (f1 && validK key (Ls true))=true then [true] else [])=(([false,true].take 2).filter fun f=>cond f f1 f0 && validK key (Ls f)):=by
    show List.filter _ [false]++_=List.filter _ ([false]++[true])
    rw [List.filter_append]
    congr 1
    rw [List.filter_cons]
    simp
   rw [← this]
   exact hL9
  ·have e:stA { s with la:=false,lb:=false,split:=false,d:=loseD s.d,ps:={ s.ps with pw:=⟨true,0,s.ps.pw.steps⟩,xa:=if 0<1 then cond f0 ((Ls false).flatMap packB) s.ps.xa else s.ps.xa,xb:=if 1<1 then cond f1 ((Ls true).flatMap packB) s.ps.xb else s.ps.xb } } true f1 (Ls true)={ s with la:=false,lb:=false,split:=false,d:=loseD s.d,ps:={ s.ps with pw:=⟨true,0,s.ps.pw.steps⟩,xa:=if 0<2 then cond f0 ((Ls false).flatMap packB) s.ps.xa else s.ps.xa,xb:=if 1<2 then cond f1 ((Ls true).flatMap packB) s.ps.xb else s.ps.xb } }:=by
    unfold stA
    cases f1 <;> rfl
   rw [← e]
   exact h9
 refine (Cb_false (p:=_)).2 ?_
 have h8:ArC w8 q 1 none (trA s f0 f1 Ls):=h8
 have hL8:StL w8 w0.heap.size ((sp,sl,sc),(lp,ll,lc),((2:Nat):Int),u) (srcsK key f0 f1 Ls) Ls:=hL8
 have hsl:sl=(srcsK key f0 f1 Ls).length:=by have:=hL8.s.length;simpa using this
 obtain ⟨Q,hrv⟩:=hL8.rv
 have hll:ll=(srcsK key f0 f1 Ls).length:=by
  have h1:=hrv.l.len
  have h2:=hrv.q
  rw [List.length_map] at h2
  exact h1.trans h2
 have hl2:(srcsK key f0 f1 Ls).length≤2:=Nat.le_trans (List.length_filter_le _ _) (by simp)
 refine Cb_of (fun hc=>?_) (fun hc=>?_)
 ·have hc:sl=0:=by simp at hc;omega
  have he:srcsK key f0 f1 Ls=[]:=List.length_eq_zero_iff.1 (by omega)
  refine arc_unlock h8 fun w9 h9 k9=>hE he w9 h9 (ArS.trans k08 (ArS.ofA k9))
 ·have hc:sl≠0:=by simp at hc;omega
  refine LdA_all hb8 rfl ?_
  exact hR (fun e=>by rw [e] at hsl;exact hc hsl) w8 sp sl sc lp ll lc Q (by omega) (by omega) hrv h8 k08 hz8
end calls
end Go.Proofs
namespace Go.Proofs
open Go Go.Ev
set_option maxRecDepth 100000
section calls
variable {w:World} {q:AB} {lk:Int} {s:AS} {R:Value→World→Prop}
theorem ar_putI (h:ArAt w q lk s) (f:Bool) {lba:Int} {d:Sec} (Iv Bad:AS→Prop) (h0:Iv s)
  (hout:∀ (s1:AS) (w1:World) (R1:Value→World→Prop),Iv s1→ArAt w1 q lk s1→(getV s1.ps.es lba).2.2≠0→q.pb.room≤(s1.ps.es.length:Int)→(∀ e s2 w2,ArAt w2 q lk s2→Keep (ArF q w1) w1 w2→(e=0∧Iv s2∧s2.ps.es.length<s1.ps.es.length∨e≠0∧Bad s2)→R1 (.int .i64 e) w2) →
   zB Tryz.prog 84 #[.pointer (some ⟨q.a,0,none⟩),.int .i64 (sideN f)] w1 R1)
  (hr:∀ s1,Iv s1→∀ g,upA s1 g=true→64≤(q.pb.sz-((xsA s1.ps g).length:Int)) / 37)
  (hK:∀ s1 w',Iv s1→((getV s1.ps.es lba).2.2=0∨(s1.ps.es.length:Int)<q.pb.room)→ArAt w' q lk { s1 with ps:=(putP q.pb.room q.pb.sz s1.ps f lba d).2 }→Keep (ArF q w) w w'→R (.int .i64 (putP q.pb.room q.pb.sz s1.ps f lba d).1.2) w')
  (hB:∀ e s2 w',e≠0→Bad s2→ArAt w' q lk s2→Keep (ArF q w) w w'→R (.int .i64 e) w') :
  zB Tryz.prog 82 #[.pointer (some ⟨q.a,0,none⟩),.int .i64 (sideN f),.int .i64 lba,.agg (secV d)] w R:=by
 apply C_array_Array_put
 unfold F_array_Array_put
 refine alc_fresh fun w1 hb1 k1 z1=>?_
 refine ⟨fun m _ w'=>∃ s',s'.ps.es.length=m∧Iv s'∧ArAt w' q lk s'∧Has w' w.heap.size (.cells (secV d) 37 (0,0))∧Keep (ArF q w) w w',⟨_,s,rfl,h0,h.keep0 k1,hb1,ArF.none k1⟩,?_⟩
 clear h0 hb1
 rintro _ m _ w2 ⟨s',hm,hv,h2,hb2,k02⟩
 refine LdV_has (v:=.pointer (some ⟨q.pb.p,0,none⟩)) h2.cells rfl (OpN_some.2 ?_)
 refine pr_Get h2.pair fun w3 k3=>T3_mk.2 (OpA_agg.2 ⟨rfl,zA.2 (zA.2 ?_)⟩)
 refine copy_of (by rw [zc_sec];rfl) rfl (one_secV _) fun w5 hb5 k5 z5=>?_
 have k25:=k3.trans k5
 have h5:=h2.keep0 k25
 have hbd:=k25.has hb2 (by simp)
 have k05:=ArF.trans k02 (ArF.none k25)
 refine ⟨fun st w'=>(∃ dd,w'=w5.dr dd)∧(st.1=true→((getV s'.ps.es lba).2.2=0∨(s'.ps.es.length:Int)<q.pb.room))∧(st.1=false→(getV s'.ps.es lba).2.2≠0∧q.pb.room≤(s'.ps.es.length:Int)),?_,?_⟩
 ·refine Cb_of (fun hc=>⟨⟨w5.drawn,rfl⟩,fun _=>Or.inl (by simpa using hc),fun e=>by cases e⟩) (fun hc=>?_)
  have hc:¬ (getV s'.ps.es lba).2.2=0:=by simpa using hc
  refine LdV_has (v:=.pointer (some ⟨q.pb.p,0,none⟩)) h5.cells rfl (OpN_some.2 ?_)
  refine pr_Full h5.pair fun dd=>OpB_bool.2 ⟨⟨dd,rfl⟩,fun e=>Or.inr ?_,fun e=>⟨hc,?_⟩⟩
  ·simp at e;omega
  ·simp at e;omega
 rintro _ ⟨g,u⟩ w6 ⟨⟨dd,rfl⟩,hT,hF⟩
 have h6:=h5.keep0 (Keep.drew _ w5 dd)
 have hb6:Has (w5.dr dd) w.heap.size (.cells (secV d) 37 (0,0)):=hbd
 have k06:=ArF.trans k05 (ArF.none (Keep.drew _ w5 dd))
 generalize w5.dr dd=w6 at *
 refine Cb_of (fun hg=>?_) (fun hg=>?_)
 ·refine ar_shorten0 h6 (hr s' hv) fun w7 k7=>zA.2 ((Cb_false (p:=_)).2 fun d2=>?_)
  have k7:=k7.dr d2
  have h7:=h6.keep0 k7
  have hb7:Has (w7.dr d2) w.heap.size (.cells (secV d) 37 (0,0)):=k7.has hb6 (by simp)
  have k07:=ArF.trans k06 (ArF.none k7)
  generalize w7.dr d2=w8 at *
  refine ⟨fun _=>True,trivial,?_⟩
  refine LdV_has (v:=.pointer (some ⟨q.pb.p,0,none⟩)) h7.cells rfl (OpN_some.2 ?_)
  refine LdA_all hb7 rfl ?_
  refine pr_Put h7.pair f fun w9 hp k9=>T2_mk.2 (zA.2 (zA.2 ⟨trivial,Ret_nil.2 ?_⟩))
  exact hK s' w9 hv (hT hg) (h7.ofPair hp k9) (ArF.trans k07 (k9.mono fun i e=>PFoot.arF e))
 ·obtain ⟨f1,f2⟩:=hF hg
  refine hout s' w6 _ hv h6 f1 f2 fun e s2 w7 h7 k7 hor=>zA.2 ?_
  have k07:=ArF.trans k06 k7
  have hb7:=k7.has hb6 (ArF.not h6 hb6 (by decide) (by decide) (by decide) (by decide) (by decide) (by decide) (by decide))
  rcases hor with ⟨he,hv2,hlt⟩ | ⟨he,hbad⟩
  ·subst he
   exact (Cb_false (p:=_)).2 ⟨_,by rw [← hm];exact hlt,s2,rfl,hv2,h7,hb7,k07⟩
  ·have e3:(e !=0)=true:=by simpa using he
   rw [e3]
   exact (Cb_true (q:=_)).2 (Ret_nil.2 (hB e s2 w7 he hbad h7 k07))
end calls
end Go.Proofs
namespace Go.Proofs
open Go Go.Ev Go.RowKit
set_option maxRecDepth 100000
section calls
variable {w:World} {R:Value→World→Prop}
theorem own_arF {w w':World} {q:AB} {lk:Int} {s:AS} (h:ArAt w q lk s) (k:Keep (ArF q w) w w') {b:Nat} {p:Option Addr} {l c:Nat} {xs:List Sec} (o:OwnL secLay w b 37 p l c xs):OwnL secLay w' b 37 p l c xs :=
 o.keep k fun b hb=>by
  obtain ⟨_,cur,hh⟩:=own_has o b 0 hb
  exact ArF.not h hh (by decide) (by decide) (by decide) (by decide) (by decide) (by decide) (by decide)
end calls
theorem gate_rw1 {cap init:Int} {c:Cmd} (hk:c.k=2∨c.k=3) (h1:1≤cntC c) (h2:cntC c≤8) (h3:0≤c.lba) (h4:c.lba+cntC c≤cap) (h5:0≤init∧init<16):(gateD dk0 cap init c).2=false:=by
 unfold gateD
 have e:cdE c cap=0:=by
  unfold cdE
  rw [if_neg (by omega),if_neg (by omega)]
 rw [if_neg (by rw [e];omega),if_neg (by omega)]
 show (!mayD dk0 init (decide (c.k=3)))=false
 have:mayD dk0 init (decide (c.k=3))=true:=by
  unfold mayD
  rw [if_neg (by unfold inD;omega)]
  rfl
 rw [this];rfl
section wr
variable {w:World} {q:AB} {s:AS} {R:Value→World→Prop} {k ph:Nat} {left S A L:Int} {fin:Int→Sec}
end wr
def nowA (n:Nat) (now:Int→Sec):List Sec:=(List.range n).map fun (k:Nat)=>now (k:Int)
theorem len_nowA (n:Nat) (now:Int→Sec):(nowA n now).length=n:=by simp [nowA]
theorem nowA_at {n k:Nat} (h:k<n) (now:Int→Sec):(nowA n now)[k]? = some (now (k:Int)):=by
 simp [nowA,h]
theorem nowA_set {n k:Nat} (now:Int→Sec) (f:Sec):(nowA n now).set k f=nowA n (upd now (k:Int) f):=by
 apply List.ext_getElem?
 intro i
 by_cases hi:i<n
 ·by_cases e:k=i
  ·subst e
   rw [List.getElem?_set_self (by rw [len_nowA];exact hi),nowA_at hi]
   unfold upd
   rw [if_pos rfl]
  ·rw [List.getElem?_set_ne e,nowA_at hi,nowA_at hi]
   unfold upd
   rw [if_neg (by omega)]
 ·rw [List.getElem?_eq_none (by rw [List.length_set,len_nowA];omega),List.getElem?_eq_none (by rw [len_nowA];omega)]
theorem nowA_zero (n:Nat):List.replicate n (sec [])=nowA n now0:=by
 apply List.ext_getElem?
 intro i
 by_cases hi:i<n
 ·rw [nowA_at hi,List.getElem?_replicate,if_pos hi];rfl
 ·rw [List.getElem?_eq_none (by simp;omega),List.getElem?_eq_none (by rw [len_nowA];omega)]
section law
variable {q0:AB} {g:Geo} {k n N0 B:Nat} {p:Option Addr} {b:Nat} {w0 w:World} {ph:Nat} {left S A L:Int} {R:Value→World→Prop}
end law
theorem run_mkS20 (w:World) {n:Nat} (hn:n≤20000):∃ w',(Instr.makeSlice 32 (.int .i64 (n:Int)) (.int .i64 (n:Int))).run Tryz.prog w=.ok (.slice (some ⟨w.heap.size,0,none⟩) n n) w'∧OwnL secLay w' w.heap.size 37 (some ⟨w.heap.size,0,none⟩) n n (List.replicate n (sec []))∧Keep (fun _=>False) w w'∧w'.heap.size=w.heap.size+1 :=
 run_makeL (P:=Tryz.prog) (L:=secLay) (x0:=sec []) (t:=32) (e:=37) (i:=(Tryz.prog.info? 37).get (by kernel_rfl)) (z:=((Tryz.prog.info? 37).get (by kernel_rfl)).zero.get (by kernel_rfl)) w (by kernel_rfl) (by kernel_rfl) (by kernel_rfl) (by kernel_rfl) (by kernel_rfl) n
  (by show n*16≤_;omega) (by have:((Tryz.prog.info? 37).get (by kernel_rfl)).bytes=16:=by kernel_rfl
                             rw [this];omega) (by simp only [maxLen];omega)
theorem evS (v:Sec):(secLay.row v).toArray=secV v:=by simp [secLay]
section calls
variable {w:World} {R:Value→World→Prop}
end calls
structure WaI (q:AB) (s0:AS) (ep x y S A L:Int) (fin:Int→Sec) (s:AS):Prop where
 qv:Qv q s fin ep x y
 jn:Jn s ep
 dn:Downs s0 s
 room:(s.ps.es.length:Int)≤q.pb.room
 steps:s.ps.pw.steps≤S
 a:(s.ps.xa.length:Int)≤A
 b:(s.ps.xb.length:Int)≤A
 last:s.ps.last≤L
 like:Like s0 s
 dead:∀ i,deadS s.ss i=deadS s0.ss i
 keq:∀ i:Nat,(s.ds.getD i dsk0).key=(s0.ds.getD i dsk0).key
structure Use (s0:AS) (ep:Int) (f:Bool):Prop where
 up:(cond f s0.ps.ub s0.ps.ua)=true
 epo:epA s0 f=ep
 live:livesA s0 f=true
 alone:upA s0 (!f)=false∨(livesA s0 (!f)=true∧s0.split=false)
 ep0:0≤ep
section plain
variable {q:AB} {s0 s:AS} {ep x y S A L:Int} {fin:Int→Sec} {f:Bool}
theorem Downs.trans {s1 s2 s3:AS} (h:Downs s1 s2) (k:Downs s2 s3) (hu:s2.ps.ua=s1.ps.ua∧s2.ps.ub=s1.ps.ub):Downs s1 s3 :=
 ⟨fun e=>(k.a (by rw [hu.1];exact e)).trans (h.a e),fun e=>(k.b (by rw [hu.2];exact e)).trans (h.b e)⟩
theorem WaI.mono (h:WaI q s0 ep x y S A L fin s) {S' A' L':Int} (h1:S≤S') (h2:A≤A') (h3:L≤L'):WaI q s0 ep x y S' A' L' fin s :=
 ⟨h.qv,h.jn,h.dn,h.room,Int.le_trans h.steps h1,Int.le_trans h.a h2,Int.le_trans h.b h2,Int.le_trans h.last h3,h.like,h.dead,h.keq⟩
theorem WaI.ready (h:WaI q s0 ep x y S A L fin s) (u:Use s0 ep f):readyA s f=true:=h.qv.ready (by rw [h.like.lives];exact u.live) (by rw [h.like.ep,u.epo];exact Int.le_refl _) u.ep0
theorem WaI.alone (h:WaI q s0 ep x y S A L fin s) (u:Use s0 ep f):upA s (!f)=false∨(livesA s (!f)=true∧s.split=false):=by
 rw [h.like.upA,h.like.lives,h.like.split];exact u.alone
theorem WaI.roomM (h:WaI q s0 ep x y S A L fin s) (hz:q.pb.sz=65536) (hA:A≤60000) (g:Bool):64≤(q.pb.sz-((xsA s.ps g).length:Int)) / 37:=by
 have ha:=h.a
 have hb:=h.b
 rw [hz]
 cases g
 ·show 64≤((65536:Int)-(s.ps.xa.length:Int)) / 37;omega
 ·show 64≤((65536:Int)-(s.ps.xb.length:Int)) / 37;omega
theorem WaI.out (h:WaI q s0 ep x y S A L fin s) (u:Use s0 ep f) (hz:q.pb.sz=65536) (hS:S≤1000000) (hA:A≤60000) (hL:L≤1000000) (hcap:capG20 q.g≤100000) {p:Int×Ent} (hp:p∈s.ps.es) :
  (outA q s f p).1=0∧WaI q s0 ep x y (S+15) (A+444) (L+1) fin (outA q s f p).2∧(outA q s f p).2.ps.es=del s.ps.es p.1:=by
 have h1:=h.steps
 have h2:=h.a
 have h3:=h.b
 have h4:=h.last
 have hep:epA s f=ep:=by rw [h.like.ep];exact u.epo
 have hlu:=len_upS s.ps f
 obtain ⟨p1,p2,p3,p4,p5,p6⟩:=h.qv.out (f:=f) hep hp (by omega) (by omega) (by rw [hz];omega) (by rw [hz];omega)
 obtain ⟨j1,j2⟩:=outJ (f:=f) h.qv h.jn hep hp (by omega) (by omega) (by rw [hz];omega) (by rw [hz];omega) hcap
 have c1:=p3.steps
 have c2:=p3.a
 have c3:=p3.b
 have c4:=p3.last
 refine ⟨p1,⟨p2,j1,h.dn.trans j2 ⟨h.like.ua,h.like.ub⟩,?_,by omega,by omega,by omega,by omega,⟨by rw [p3.up.1];exact h.like.ua,by rw [p3.up.2];exact h.like.ub,?_⟩,fun i=>(p5.dead i).trans (h.dead i),fun i=>(p5.keq i).trans (h.keq i)⟩,p4⟩
 ·rw [p4]
  have:=del_lt hp
  have:=h.room
  omega
 ·have:=h.like.rest
  generalize outA q s f p=z at *
  rw [p6,this]
theorem ins_len_some {es:List (Int×Ent)} {l:Int} {e v:Ent} (hm:mlook es l=some e):(ins es l v).length=es.length:=by
 unfold ins
 rw [if_pos (by rw [List.any_eq_true]
                unfold mlook at hm
                rw [Option.map_eq_some_iff] at hm
                obtain ⟨r,hr1,_⟩:=hm
                exact ⟨r,List.mem_of_find?_eq_some hr1,by simpa using List.find?_some hr1⟩)]
 simp
theorem WaI.put (h:WaI q s0 ep x y S A L fin s) (u:Use s0 ep f) (hz:q.pb.sz=65536) (hS:S≤1000000) (hA:A≤60000) (hL:L≤1000000) (hcap:capG20 q.g≤100000) {lba:Int} {d:Sec} (hd:SecOk d) (h0:0≤lba) (h1:lba<capG20 q.g) (hr:(getV s.ps.es lba).2.2=0∨(s.ps.es.length:Int)<q.pb.room) :
  (putP q.pb.room q.pb.sz s.ps f lba d).1.2=0∧WaI q s0 ep x y (S+2) (A+74) (L+1) (upd fin lba d) { s with ps:=(putP q.pb.room q.pb.sz s.ps f lba d).2 }:=by
 have e1:=h.steps
 have e2:=h.a
 have e3:=h.b
 have e4:=h.last
 have hlu:=len_upS s.ps f
 have hroom:mlook s.ps.es lba=none→(s.ps.es.length:Int)<q.pb.room:=fun hn=>by
  rcases hr with hr | hr
  ·unfold getV at hr
   rw [hn] at hr
   exact absurd hr (by decide)
  ·exact hr
 have hup:(cond f s.ps.ub s.ps.ua)=true:=by rw [h.like.ua,h.like.ub];exact u.up
 obtain ⟨p1,p2,p3,p4⟩:=h.qv.put (f:=f) hd h0 h1 hup hroom (by omega) (by omega) (by rw [hz];omega) (by rw [hz];omega) hcap
 obtain ⟨j1,j2⟩:=putJ (f:=f) h.qv h.jn hd h0 h1 hup hroom (by omega) (by omega) (by rw [hz];omega) (by rw [hz];omega) hcap
 have c1:=p3.steps
 have c2:=p3.a
 have c3:=p3.b
 have c4:=p3.last
 refine ⟨p1,⟨p2,j1,h.dn.trans j2 ⟨h.like.ua,h.like.ub⟩,?_,by rw [c1];omega,by omega,by omega,by rw [c4];omega,⟨by rw [p3.up.1];exact h.like.ua,by rw [p3.up.2];exact h.like.ub,?_⟩,h.dead,h.keq⟩⟩
 ·show ((putP q.pb.room q.pb.sz s.ps f lba d).2.es.length:Int)≤_
  rw [p4]
  cases hm:mlook s.ps.es lba with
  | none =>
   have:=hroom hm
   rw [look_new hm]
   simp
   omega
  | some e =>
   rw [ins_len_some hm]
   exact h.room
 ·have:=h.like.rest
  generalize putP q.pb.room q.pb.sz s.ps f lba d=z at *
  rw [this]
end plain
section calls
variable {w:World} {R:Value→World→Prop} {q:AB} {s0 s:AS} {ep x y S A L:Int} {fin:Int→Sec} {f:Bool}
theorem WaI.outC (hR:WaI q s0 ep x y S A L fin s) (u:Use s0 ep f) (hz:q.pb.sz=65536) (hroom:q.pb.room≤64) (hA:A≤60000) (hS:S≤1000000) (hL:L≤1000000) (hcap:capG20 q.g≤100000) {lk:Int} (h:ArAt w q lk s) (hne:s.ps.es≠[])
  (hK:∀ p w',p∈s.ps.es→ArAt w' q lk (outA q s f p).2→Keep (ArF q w) w w'→WaI q s0 ep x y (S+15) (A+444) (L+1) fin (outA q s f p).2→(outA q s f p).2.ps.es=del s.ps.es p.1→R (.int .i64 0) w') :
  zB Tryz.prog 84 #[.pointer (some ⟨q.a,0,none⟩),.int .i64 (sideN f)] w R:=by
 obtain ⟨now,hg,_⟩:=hR.qv.good
 have hr2:=hR.room
 refine ar_out0 h hg.ss.ok f (by omega) hne (fun e he=>?_) (fun g _=>hR.roomM hz hA g) fun p w' hp _ h' k'=>?_
 ·obtain ⟨e1,e2,_⟩:=hR.qv.es e.1 e.2 (mem_look hR.qv.nd he)
  exact ⟨e1.1,e1.2,by rw [e2];exact hR.qv.fok _⟩
 ·obtain ⟨p1,p2,p3⟩:=hR.out u hz hS hA hL hcap hp
  have:=hK p w' hp h' k' p2 p3
  rw [p1]
  exact this
theorem gate_any {d:Dk} (hd:d=dk0) {cap init:Int} {c:Cmd} (hk:c.k=2∨c.k=3) (h1:1≤cntC c) (h2:cntC c≤8) (h3:0≤c.lba) (h4:c.lba+cntC c≤cap) (h5:0≤init∧init<16):(gateD d cap init c).2=false:=by
 rw [hd];exact gate_rw1 hk h1 h2 h3 h4 h5
theorem WaI.read1 (hR:WaI q s0 ep x y S A L fin s) (u:Use s0 ep f) (hd0:s0.d=dk0) (h:ArAt w q 0 s) {l:Int} (h0:0≤l) (h1:l<capG20 q.g)
  (hK:∀ p cc w',ArAt w' q 0 s→Keep (ArF q w) w w'→OwnL secLay w' w.heap.size 37 p 1 cc [fin l]→R (.agg (repC 1 0 p 1 cc)) w') :
  zB Tryz.prog 16 #[.pointer (some ⟨q.a,0,none⟩),.int .i64 (sideN f),.int .i64 0,.agg (cmdC ⟨2,l,1,none,0,0,0,0,false⟩)] w R:=by
 obtain ⟨now,hg,_⟩:=hR.qv.good
 have hre:=hR.qv.read h0 h1
 refine ar_DoRead (c:=⟨2,l,1,none,0,0,0,0,false⟩) h f rfl (hR.ready u) rfl (alone_none f (hR.alone u)) (gate_any (by rw [hR.like.d];exact hd0) (Or.inl rfl) (by show (1:Int)≤1;decide) (by show (1:Int)≤8;decide) h0 (by show l+(1:Int)≤capG20 q.g;omega) (by decide)) hg.ss.ok (fun m hm=>?_) fun p' cc w16 ha4 k4 o4=>?_
 ·have hm:(m:Int)<1:=hm
  have:m=0:=by omega
  subst this
  show (readA q s (l+((0:Nat):Int))).2=0
  rw [show l+((0:Nat):Int)=l by omega,hre]
 have hrs:readsA q s l (1:Int).toNat=[fin l]:=by
  show [(readA q s (l+((0:Nat):Int))).1]=_
  rw [show l+((0:Nat):Int)=l by omega,hre]
 have o4:OwnL secLay w16 w.heap.size 37 p' 1 cc (readsA q s l (1:Int).toNat):=o4
 rw [hrs] at o4
 exact hK p' cc w16 ha4 k4 o4
end calls
theorem look_esOf {es:List (Int×Ent)} {rs:List Rec} (hD:IsD es rs) (hn:(es.map (·.1)).Nodup) (l:Int):mlook (esOf rs) l=mlook es l:=by
 have hkeys:((esOf rs).map (·.1)).Nodup:=by
  rw [esOf_keys]
  have:(rs.map (·.lba)).Perm (es.map (·.1)):=by
   have:=hD.1.map (·.lba)
   rw [List.map_map] at this
   exact this
  exact this.nodup_iff.2 hn
 refine Option.ext fun e=>⟨fun h=>?_,fun h=>?_⟩
 ·have hm:=mlook_mem h
  unfold esOf at hm
  obtain ⟨r,hr,he⟩:=List.mem_map.1 hm
  obtain ⟨p,hp,rfl⟩:=List.mem_map.1 (hD.1.mem_iff.1 hr)
  have he:(p.1,(p.2.1,p.2.2))=(l,e):=he
  have:p=(l,e):=he
  rw [this] at hp
  exact mem_mlook hn hp
 ·have hm:=mlook_mem h
  refine mem_mlook hkeys ?_
  unfold esOf
  exact List.mem_map.2 ⟨recOf (l,e),hD.1.mem_iff.2 (List.mem_map.2 ⟨(l,e),hm,rfl⟩),rfl⟩
theorem applyS_nil (g:Geo) (s:SS) (ep:Int):applyS g s [] ep=(0,s):=by
 unfold applyS
 rw [if_pos (by simp)]
 rfl
theorem after_small {ep:Int} (h0:0≤ep) (h1:ep<1000000) (f:Bool):∃ e,afterS ep (sideN f)=(e,0)∧ep<e∧e≤ep+2:=by
 have hside:sideOk (sideN f):=by cases f <;> first | exact side0 | exact side1
 unfold afterS
 rw [if_neg (by simpa using hside)]
 simp only
 generalize hx:(if (ep+1) % 2=sideN f then ep+1 else ep+2)=x
 have hx2:ep<x∧x≤ep+2:=by rw [← hx];split <;> omega
 rw [if_neg (by omega)]
 exact ⟨x,rfl,hx2⟩
theorem GoodE.fence {g:Geo} {s:SS} {now:Int→Sec} {ep e:Int} (h:GoodE g s now ep) (h0:0≤ep) (h1:ep≤e) (h2:e≤4294967295):GoodE g (fenceS s e).2 now e:=by
 have hp:=fence_pw s e
 refine ⟨fence_ok h.ss ⟨by omega,h2⟩,by rw [hp];exact h.lit,fence_key (by omega) fun i=>Int.le_trans (h.key i) h1,h.inv.see h.ss.geo fun i a _ _=>fence_view s e i a,h.nok,by rw [hp];exact h.st0⟩
theorem fenceS_eta (s:SS) (e:Int) {pw:Pow} (hp:pw=s.pw):(⟨(fenceS s e).2.ds,pw⟩:SS)=(fenceS s e).2:=by
 have:=fence_pw s e
 generalize fenceS s e=z at *
 obtain ⟨z1,⟨zd,zp⟩⟩:=z
 simp only at this
 subst this
 subst hp
 rfl
theorem keyL_ge:∀ (l:List Dsk) (k:Int),k≤keyL k l
 | [],_=>Int.le_refl _
 | D::l,k=>by
  show k≤keyL (if D.dead=true then k else max k D.key) l
  refine Int.le_trans ?_ (keyL_ge l _)
  split <;> omega
theorem keyL_mem {l:List Dsk} {k:Int} {D:Dsk} (hD:D∈l) (hd:D.dead=false):D.key≤keyL k l:=by
 induction l generalizing k with
 | nil=>cases hD
 | cons E l ih =>
  show D.key≤keyL (if E.dead=true then k else max k E.key) l
  rcases List.mem_cons.1 hD with rfl | hD
  ·refine Int.le_trans ?_ (keyL_ge l _)
   rw [if_neg (by rw [hd];decide)]
   omega
  ·exact ih hD
structure Started (q':AB) (s s':AS) (fin:Int→Sec) (e x y:Int) (f0 f1:Bool):Prop where
 qv:Qv q' s' fin e x y
 jn:Jn s' e
 len:s'.ps.es.length=s.ps.es.length
 up:s'.ps.ua=f0∧s'.ps.ub=f1
 ua:s'.ua=f0∧s'.ub=f1
 lives:s'.la=f0∧s'.lb=f1
 ep:s'.ea=e∧s'.eb=e
 split:s'.split=false
 later:s'.later=s.later
 marks:s'.marks=s.marks
 d:s'.d=loseD s.d
 steps:s.ps.pw.steps≤s'.ps.pw.steps∧s'.ps.pw.steps≤s.ps.pw.steps+4
 a:(s'.ps.xa.length:Int)≤max 2405 (s.ps.xa.length:Int)
 b:(s'.ps.xb.length:Int)≤max 2405 (s.ps.xb.length:Int)
 last:s'.ps.last≤s.ps.last
 epoch:s'.ps.epoch=e
section calls
variable {w:World} {R:Value→World→Prop} {q:AB} {s:AS} {ep x y:Int} {fin:Int→Sec}
def MemS (go:Bool) (xs:List Int) (es:List (Int×Ent)) (last ep:Int) (A:List Rec):Prop:=KeptB xs A∧(go=true→WholeB xs A∧MemOk A es last∧EpOk ep A)
set_option maxHeartbeats 1000000 in
theorem start_ok {pp:Option Addr} (h:ArC w q 0 pp s) (hqv:Qv q s fin ep x y) {f0 f1:Bool} (hf01:f0=true∨f1=true) {A B:List Rec} (hA:MemS f0 s.ps.xa s.ps.es s.ps.last ep A) (hB:MemS f1 s.ps.xb s.ps.es s.ps.last ep B) (hl0:s.later=0) (hkey:keyS s.ss=ep) (hep:0≤ep∧ep<1000000) (hst:s.ps.pw.steps<100000000) (hla:s.ps.last<100000000)
  (hz:q.pb.sz=65536) (hroom:1≤q.pb.room∧q.pb.room≤64) (hes:(s.ps.es.length:Int)≤q.pb.room) (hcap:capG20 q.g≤100000) (ha:(s.ps.xa.length:Int)≤60000) (hb:(s.ps.xb.length:Int)≤60000)
  (hK:∀ p c mp s' w' e,ep<e→e≤ep+2→w.heap.size≤p→w.heap.size≤mp→ArAt w' (q.re p c mp) 0 s'→Started (q.re p c mp) s s' fin e x y f0 f1→(f0=false→s'.ps.xa=s.ps.xa)→(f1=false→s'.ps.xb=s.ps.xb)→s'.ds=(fenceS ⟨s.ds,s.ps.pw⟩ e).2.ds→Keep (ArS q w) w w'→R (.int .i64 0) w') :
  zB Tryz.prog 21 #[.pointer (some ⟨q.a,0,none⟩),.bool f0,.bool f1] w R:=by
 obtain ⟨now,hg,hnow⟩:=hqv.good
 have hon:s.ps.pw.on=true:=hg.lit.1
 have hs0:0≤s.ps.pw.steps:=hg.st0
 have hl00:=hqv.last
 generalize hLsE:(fun f:Bool=>cond f B A)=Ls
 have eA:Ls false=A:=by rw [← hLsE];rfl
 have eB:Ls true=B:=by rw [← hLsE];rfl
 have vA:f0=true→validK ep A=true:=fun hf=>by
  obtain ⟨_,_,h3⟩:=hA.2 hf
  unfold validK
  rw [Bool.or_eq_true,decide_eq_true_eq,List.any_eq_true]
  rcases h3.1 with h3 | ⟨r,r1,r2,r3⟩
  ·exact Or.inl h3
  ·exact Or.inr ⟨r,r1,by rw [Bool.and_eq_true,decide_eq_true_eq,decide_eq_true_eq];exact ⟨r2,r3⟩⟩
 have vB:f1=true→validK ep B=true:=fun hf=>by
  obtain ⟨_,_,h3⟩:=hB.2 hf
  unfold validK
  rw [Bool.or_eq_true,decide_eq_true_eq,List.any_eq_true]
  rcases h3.1 with h3 | ⟨r,r1,r2,r3⟩
  ·exact Or.inl h3
  ·exact Or.inr ⟨r,r1,by rw [Bool.and_eq_true,decide_eq_true_eq,decide_eq_true_eq];exact ⟨r2,r3⟩⟩
 have hsrc:srcsK ep f0 f1 Ls=upsS f0 f1:=by
  unfold srcsK upsS
  refine List.filter_congr fun f hf=>?_
  cases f
  ·show (f0 && validK ep (Ls false))=f0
   rw [eA]
   cases f0
   ·rfl
   ·rw [vA rfl];rfl
  ·show (f1 && validK ep (Ls true))=f1
   rw [eB]
   cases f1
   ·rfl
   ·rw [vB rfl];rfl
 have hex:∃ src srcs,upsS f0 f1=src::srcs:=by
  cases f0 <;> cases f1
  ·rcases hf01 with h | h <;> cases h
  ·exact ⟨true,[],rfl⟩
  ·exact ⟨false,[],rfl⟩
  ·exact ⟨false,[true],rfl⟩
 obtain ⟨src,srcs,hups⟩:=hex
 have hnd:(upsS f0 f1).Nodup:=by unfold upsS;exact List.Nodup.sublist List.filter_sublist (by decide)
 have hlen2:(upsS f0 f1).length≤2:=Nat.le_trans (List.length_filter_le _ _) (by simp)
 have mem0:false∈upsS f0 f1 ↔ f0=true:=by unfold upsS;cases f0 <;> cases f1 <;> simp
 have mem1:true∈upsS f0 f1 ↔ f1=true:=by unfold upsS;cases f0 <;> cases f1 <;> simp
 have hLL:∀ Lx∈(upsS f0 f1).map Ls,MemOk Lx s.ps.es s.ps.last:=fun Lx hLx=>by
  obtain ⟨f,hf,rfl⟩:=List.mem_map.1 hLx
  cases f
  ·rw [eA];exact (hA.2 (mem0.1 hf)).2.1
  ·rw [eB];exact (hB.2 (mem1.1 hf)).2.1
 have hLLne:(upsS f0 f1).map Ls≠[]:=by rw [hups];simp
 have hkA:KeptB s.ps.xa (Ls false):=by rw [eA];exact hA.1
 have hkB:KeptB s.ps.xb (Ls true):=by rw [eB];exact hB.1
 have exa:(trA s f0 f1 Ls).ps.xa=s.ps.xa:=by
  show cond f0 ((Ls false).flatMap packB) s.ps.xa=_
  cases f0
  ·rfl
  ·rw [eA];exact (hA.2 rfl).1.2.symm
 have exb:(trA s f0 f1 Ls).ps.xb=s.ps.xb:=by
  show cond f1 ((Ls true).flatMap packB) s.ps.xb=_
  cases f1
  ·rfl
  ·rw [eB];exact (hB.2 rfl).1.2.symm
 refine ar_Start h hf01 hl0 (by omega) hkA hkB (fun b hb=>(h.marks.lt hb).2) (fun he=>?_) fun hne w1 sp sl sc lp ll lc Q hsl2 hll2 hrv hC k1 hz1=>?_
 ·rw [hkey,hsrc,hups] at he
  cases he
 rw [hkey,hsrc] at hrv
 rw [hkey]
 obtain ⟨e,haf,he1,he2⟩:=after_small hep.1 hep.2 src
 have hlit:Lit0 (⟨true,0,s.ps.pw.steps⟩:Pow):=⟨rfl,rfl⟩
 have hpend:pendG ((upsS f0 f1).map Ls)=[]:=pend_none fun Lx hLx=>(hLL Lx hLx).done
 have hpS:=pendS_nil hpend
 have m0:=eachM_lit (sz:=q.pb.sz) (x:=⟨6,e,0,sec []⟩) (upsS f0 f1) ⟨⟨true,0,s.ps.pw.steps⟩,s.ps.xa,s.ps.xb⟩ hlit hs0 (by show s.ps.pw.steps+_<_;omega) (by show _≤q.pb.sz-(s.ps.xa.length:Int);rw [hz];omega) (by show _≤q.pb.sz-(s.ps.xb.length:Int);rw [hz];omega)
 have m1:=eachM_cont (sz:=q.pb.sz) (x:=⟨6,e,0,sec []⟩) (upsS f0 f1) ⟨⟨true,0,s.ps.pw.steps⟩,s.ps.xa,s.ps.xb⟩ hnd hlit hs0 (by show s.ps.pw.steps+_<_;omega) (by show _≤q.pb.sz-(s.ps.xa.length:Int);rw [hz];omega) (by show _≤q.pb.sz-(s.ps.xb.length:Int);rw [hz];omega)
 obtain ⟨m0a,m0b⟩:=m0
 have hms:eachM q.pb.sz ⟨6,e,0,sec []⟩ (src::srcs) ⟨(trA s f0 f1 Ls).ss.pw,(trA s f0 f1 Ls).ps.xa,(trA s f0 f1 Ls).ps.xb⟩=(0,(eachM q.pb.sz ⟨6,e,0,sec []⟩ (upsS f0 f1) ⟨⟨true,0,s.ps.pw.steps⟩,s.ps.xa,s.ps.xb⟩).2):=by
  rw [exa,exb,← hups]
  exact Prod.ext m0a rfl
 generalize (eachM q.pb.sz ⟨6,e,0,sec []⟩ (upsS f0 f1) ⟨⟨true,0,s.ps.pw.steps⟩,s.ps.xa,s.ps.xb⟩).2=ms at *
 have msst:ms.pw.steps=s.ps.pw.steps+((upsS f0 f1).length:Int):=m0b.steps
 obtain ⟨m1a,m1b⟩:=m1
 have hleft:∀ rs,IsLeft ((upsS f0 f1).map Ls) rs→IsD s.ps.es rs:=fun rs hrs=>left_isD hLL hLLne hqv.nd hrs.1 hrs.2
 have hrsOk:∀ rs,IsLeft ((upsS f0 f1).map Ls) rs→(∀ r∈rs,r.kind=1∧(0≤r.lba∧r.lba≤2147483647)∧r.ver≤topL ((upsS f0 f1).map Ls))∧(rs.map (·.lba)).Nodup∧(rs.length:Int)≤q.pb.room:=fun rs hrs=>by
  have hD:=hleft rs hrs
  refine ⟨fun r hr=>?_,?_,?_⟩
  ·obtain ⟨p,hp,rfl⟩:=List.mem_map.1 (hD.1.mem_iff.1 hr)
   have hm:=mem_look hqv.nd hp
   obtain ⟨e1,_⟩:=hqv.es p.1 p.2 hm
   refine ⟨rfl,⟨e1.1,by show p.1≤_;omega⟩,?_⟩
   have hmem:recOf p∈((upsS f0 f1).map Ls).flatten:=by
    obtain ⟨Lx,hLx⟩:=List.exists_mem_of_ne_nil _ hLLne
    exact List.mem_flatten.2 ⟨Lx,hLx,((hLL Lx hLx).has p.1 p.2 hm).1⟩
   exact (top_spec _ 0).2.1 _ hmem (by show (1:Int)≤1;decide) (by show (1:Int)≤5;decide)
  ·have:(rs.map (·.lba)).Perm (s.ps.es.map (·.1)):=by
    have:=hD.1.map (·.lba)
    rw [List.map_map] at this
    exact this
   exact this.nodup_iff.2 hqv.nd
  ·have:=hD.1.length_eq
   rw [List.length_map] at this
   omega
 have hcL:∀ rs,IsLeft ((upsS f0 f1).map Ls) rs→_:=fun rs hrs=>compS_lit (sz:=q.pb.sz) (rs:=⟨6,e,0,sec []⟩::rs) (by have:=(hrsOk rs hrs).2.2;simp only [List.length_cons];rw [hz];omega) (upsS f0 f1) (resP rs (topL ((upsS f0 f1).map Ls)) e f0 f1 ms) hnd m0b.lit (by show 0≤ms.pw.steps;omega) (by show ms.pw.steps+_<_;omega)
 obtain ⟨htop0,htopM⟩:=MemOk.top hLL hl00
 have hflat:((upsS f0 f1).map Ls).flatten.length≤100000:=by
  have lenB:∀ {xs:List Int} {X:List Rec},KeptB xs X→(xs.length:Int)≤60000→X.length≤2000:=fun hk hx=>by
   obtain ⟨t,_,_,ht⟩:=hk.2
   rw [ht,List.length_append,recs_len] at hx
   omega
  have l0:=lenB hkA ha
  have l1:=lenB hkB hb
  unfold upsS
  cases f0 <;> cases f1 <;> simp <;> omega
 refine ar_recover (q:=q) (s:=trA s f0 f1 Ls) (ss1:=(trA s f0 f1 Ls).ss) (e:=e) (ms:=ms) (src:=src) (srcs:=srcs) hC hf01 hsl2 (by rw [← hups];exact hrv) hll2 hflat (fun r hr=>?_) ⟨hep.1,by omega⟩ (by rw [hpend];simp) (by rw [hpS];simp) (by rw [hpS];exact applyS_nil _ _ _) hg.ss.ok haf ⟨by omega,by omega⟩ hms m0b.lit.1 hroom hrsOk (fun rs hrs=>⟨(hcL rs hrs).1,(hcL rs hrs).2.1.1⟩) fun p c mp rs w2 hrs hp hmp ha2 k2=>?_
 ·obtain ⟨Lx,hLx,hr'⟩:=List.mem_flatten.1 hr
  exact (hLL Lx hLx).rc r hr'
 obtain ⟨c1,c2,c3,c4⟩:=hcL rs hrs
 have hD:=hleft rs hrs
 obtain ⟨r1,r2,r3⟩:=hrsOk rs hrs
 refine zA.2 (ar_unlock ha2 fun w3 ha3 k3=>?_)
 generalize hps:(compS q.pb.sz (⟨6,e,0,sec []⟩::rs) (upsS f0 f1) (resP rs (topL ((upsS f0 f1).map Ls)) e f0 f1 ms)).2=ps at *
 have pes:ps.es=esOf rs:=by rw [c4];rfl
 have plast:ps.last=topL ((upsS f0 f1).map Ls):=by rw [c4];rfl
 have pua:ps.ua=f0∧ps.ub=f1:=by rw [c4];exact ⟨rfl,rfl⟩
 have pxa:ps.xa=if false∈upsS f0 f1 then (⟨6,e,0,sec []⟩::rs).flatMap packB else ms.xa:=by rw [c4];rfl
 have pxb:ps.xb=if true∈upsS f0 f1 then (⟨6,e,0,sec []⟩::rs).flatMap packB else ms.xb:=by rw [c4];rfl
 have pep:ps.epoch=e:=by rw [c4];rfl
 have psteps:ps.pw.steps=ms.pw.steps+((upsS f0 f1).length:Int):=c3
 have look:=look_esOf hD hqv.nd
 have hlenrs:rs.length=s.ps.es.length:=by have:=hD.1.length_eq;rwa [List.length_map] at this
 have hnes:((esOf rs).map (·.1)).Nodup:=by rw [esOf_keys];exact r2
 have hfl:(((⟨6,e,0,sec []⟩::rs:List Rec).flatMap packB).length:Int)≤2405:=by rw [recs_len];simp only [List.length_cons];omega
 have hgf:GoodE q.g (fenceS ⟨s.ds,s.ps.pw⟩ e).2 now e:=GoodE.fence (s:=⟨s.ds,s.ps.pw⟩) hg hep.1 (by omega) (by omega)
 have hdsE:(fenceS ⟨s.ds,ps.pw⟩ e).2.ds=(fenceS ⟨s.ds,s.ps.pw⟩ e).2.ds:=fence_same _ _ _ c2.1 hon e
 have hMs:MemOk (⟨6,e,0,sec []⟩::rs) (esOf rs) (topL ((upsS f0 f1).map Ls)):=by
  refine MemOk.short (esOf_isD (fun r hr=>(r1 r hr).1) hD.2) hnes (fun l en hl=>?_) (rc_epoch ⟨by omega,by omega⟩)
  rw [look] at hl
  obtain ⟨e1,e2,e3,e4⟩:=hqv.es l en hl
  refine ⟨rc_dirty (by rw [e2];exact hqv.fok _) ⟨e3,by show en.2≤_;omega⟩ ⟨e1.1,by show l≤_;omega⟩,?_⟩
  have hmm:=hD.1.mem_iff.2 (List.mem_map.2 ⟨(l,en),mlook_mem hl,rfl⟩)
  exact (r1 _ hmm).2.2
 have hWs:WholeB ((⟨6,e,0,sec []⟩::rs:List Rec).flatMap packB) (⟨6,e,0,sec []⟩::rs):=⟨hMs.rc,rfl⟩
 have hepm:EpOk e (⟨6,e,0,sec []⟩::rs:List Rec):=⟨Or.inr ⟨_,List.mem_cons_self ..,rfl,rfl⟩,fun r hr hk=>by
  rcases List.mem_cons.1 hr with rfl | hr
  ·exact Int.le_refl _
  ·have:=(r1 r hr).1;omega⟩
 have msxa:f0=false→ms.xa=s.ps.xa:=fun hf=>by rw [m1a,if_neg (fun hm=>by rw [mem0.1 hm] at hf;cases hf)];simp
 have msxb:f1=false→ms.xb=s.ps.xb:=fun hf=>by rw [m1b,if_neg (fun hm=>by rw [mem1.1 hm] at hf;cases hf)];simp
 have pxa0:f0=false→ps.xa=s.ps.xa:=fun hf=>by rw [pxa,if_neg (fun hm=>by rw [mem0.1 hm] at hf;cases hf)];exact msxa hf
 have pxb0:f1=false→ps.xb=s.ps.xb:=fun hf=>by rw [pxb,if_neg (fun hm=>by rw [mem1.1 hm] at hf;cases hf)];exact msxb hf
 have hpw3:Keep (ArS q w) w w3:=ArS.trans (ArS.trans k1 (k2.mono fun i e=>e)) (ArS.ofA (q:=q) k3)
 refine hK p c mp _ w3 e he1 he2 (by omega) (by omega) ha3 ⟨⟨⟨now,?_,fun l hl=>?_⟩,fun j a hj ha' hv=>?_,fun l en hl=>?_,?_,?_,hqv.fok⟩,⟨?_,?_⟩,?_,pua,⟨rfl,rfl⟩,⟨rfl,rfl⟩,⟨rfl,rfl⟩,rfl,rfl,rfl,rfl,?_,?_,?_,?_,pep⟩ pxa0 pxb0 hdsE hpw3
 ·show GoodE q.g ⟨(fenceS ⟨s.ds,ps.pw⟩ e).2.ds,ps.pw⟩ now e
  rw [hdsE]
  have hgp:=hgf.pow (pw:=ps.pw) c2 (by rw [psteps];omega)
  exact hgp
 ·have hl:mlook ps.es l=none:=hl
  rw [pes,look] at hl
  exact hnow l hl
 ·have hv:viewS ⟨(fenceS ⟨s.ds,ps.pw⟩ e).2.ds,ps.pw⟩ j a=none:=hv
  rw [hdsE] at hv
  have hv2:viewS (fenceS ⟨s.ds,s.ps.pw⟩ e).2 j a=none:=hv
  rw [fence_view] at hv2
  exact hqv.v2 j a hj ha' hv2
 ·have hl:mlook ps.es l=some en:=hl
  rw [pes,look] at hl
  obtain ⟨e1,e2,e3,e4⟩:=hqv.es l en hl
  refine ⟨e1,e2,e3,?_⟩
  show en.2≤ps.last
  rw [plast]
  have hmm:=hD.1.mem_iff.2 (List.mem_map.2 ⟨(l,en),mlook_mem hl,rfl⟩)
  exact (r1 _ hmm).2.2
 ·show (ps.es.map (·.1)).Nodup
  rw [pes];exact hnes
 ·show 0≤ps.last
  rw [plast];exact htop0.1
 ·show JnM ps.ua ps.xa ps.es ps.last e
  rw [pua.1,pes,plast]
  intro hf
  rw [pxa,if_pos (mem0.2 hf)]
  exact ⟨_,hWs,hMs,hepm⟩
 ·show JnM ps.ub ps.xb ps.es ps.last e
  rw [pua.2,pes,plast]
  intro hf
  rw [pxb,if_pos (mem1.2 hf)]
  exact ⟨_,hWs,hMs,hepm⟩
 ·show ps.es.length=_
  rw [pes]
  unfold esOf
  rw [List.length_map];exact hlenrs
 ·show s.ps.pw.steps≤ps.pw.steps∧ps.pw.steps≤_
  rw [psteps,msst]
  omega
 ·show (ps.xa.length:Int)≤_
  cases hf:f0 with
  | true=>rw [pxa,if_pos (mem0.2 hf)];omega
  | false=>rw [pxa0 hf];omega
 ·show (ps.xb.length:Int)≤_
  cases hf:f1 with
  | true=>rw [pxb,if_pos (mem1.2 hf)];omega
  | false=>rw [pxb0 hf];omega
 ·show ps.last≤_
  rw [plast];exact htop0.2
end calls
end Go.Proofs
namespace Go.Proofs
open Go.Ev
set_option maxRecDepth 100000
def F_ravelintop_form (a:Int) (b:Int) (c:Int) (w:World) (R:Value→World→Prop):Prop :=
 Alc 24 (zc Tryz.prog 24) w fun b1 w=>Req ((4:Int)≠0) (Req ((3:Int)≠0) (Req ((3:Int)≠0) (DoQ Tryz.prog (Instr.build 24 #[(0,.int .i64 (IntKind.wrap .i64
 ((IntKind.wrap .i64 (Int.tmod a 4))+4))),(1,.int .i64 (IntKind.wrap .i64 ((IntKind.wrap .i64 (Int.tmod b 3))+1))),(2,.int .i64 (IntKind.wrap .i64 ((IntKind.wrap
 .i64 (Int.tmod c 3))+1)))]) (At w) fun v=>OpA 3 v fun cs=>StA 3 b1 0 cs w fun w=>LdA 3 b1 0 (At w) fun cs1=>Ret [] (R (.agg cs1) w))))
theorem C_ravelintop_form {a:Int} {b:Int} {c:Int} {w:World} {R:Value→World→Prop} (h:F_ravelintop_form a b c w R):zB Tryz.prog 12 #[.int .u8 a,.int .u8 b,.int .u8 c] w R:=by
 exact zE (args:=[.int .u8 a,.int .u8 b,.int .u8 c]) (mkAnn [] [] [] [] []) zD Tryz.func12 rfl rfl (by kernel_rfl) h
def F_ravelintop_one (n:Int) (k:Int) (w:World) (R:Value→World→Prop):Prop :=
 Alc 37 (zc Tryz.prog 37) w fun b w=>Req (0≤(8:Int)) (DoQ Tryz.prog (Instr.build 37 #[(0,.int .u8 (IntKind.wrap .u8 n)),(1,.int .u8 (IntKind.wrap .u8 (ishr .i64 n
 8))),(2,.int .u8 (IntKind.wrap .u8 k)),(3,.int .u8 1)]) (At w) fun v=>OpA 16 v fun cs=>StA 16 b 0 cs w fun w=>LdA 16 b 0 (At w) fun cs1=>Ret [] (R (.agg cs1)
 w))
theorem C_ravelintop_one {n:Int} {k:Int} {w:World} {R:Value→World→Prop} (h:F_ravelintop_one n k w R):zB Tryz.prog 17 #[.int .i64 n,.int .i64 k] w R:=by
 exact zE (args:=[.int .i64 n,.int .i64 k]) (mkAnn [] [] [] [] []) zD Tryz.func17 rfl rfl (by kernel_rfl) h
def F_ravelintop_arrayWakes  (w:World) (R:Value→World→Prop):Prop :=
 DoQ Tryz.prog (Instr.build 24 #[(0,.int .i64 4),(1,.int .i64 1),(2,.int .i64 2)]) (At w) fun v=>OpA 3 v fun cs=>zB Tryz.prog 13 #[.agg cs,.int .i64 1] w fun
 v1 w=>T2 v1 fun v2 v3=>OpN v2 fun b o=>OpI .i64 v3 fun n=>Req ((n !=0)=(n !=0)) (Req ((n !=0)=(n !=0)) (Cb (cond (n !=0) true false) (Ret [] (R (.bool
 false) w)) (DoQ Tryz.prog (Instr.build 37 #[(0,.int .u8 5)]) (At w) fun v4=>OpA 16 v4 fun cs1=>DoQ Tryz.prog (Instr.build 37 #[(0,.int .u8 6)]) (At w) fun v5=>OpA
 16 v5 fun cs2=>DoV Tryz.prog (Instr.buildSlice 32 2 #[(0,.agg cs1),(1,.agg cs2)]) w fun v6 w=>OpS v6 fun p l c=>DoQ Tryz.prog (Instr.build 41 #[(0,.int .i64 3),
 (1,.int .i64 1),(3,.slice p l c)]) (At w) fun v7=>OpA 7 v7 fun cs3=>zB Tryz.prog 16 #[.pointer (some ⟨b,o,none⟩),.int .i64 0,.int .i64 0,.agg cs3] w fun v8
 w=>OpA 3 v8 fun cs4=>DoQ Tryz.prog (Instr.build 41 #[(0,.int .i64 2),(1,.int .i64 1),(2,.int .i64 2)]) (At w) fun v9=>OpA 7 v9 fun cs5=>zB Tryz.prog 16
 #[.pointer (some ⟨b,o,none⟩),.int .i64 1,.int .i64 0,.agg cs5] w fun v10 w=>OpA 3 v10 fun cs6=>Alc 34 (zc Tryz.prog 34) w fun b1 w=>StA 3 b1 0 cs6 w fun w =>
 LdV b1 0 (At w) fun v11=>OpI .i64 v11 fun n1=>Cb (n1==1) (LdV b1 2 (At w) fun v12=>OpS v12 fun p1 l1 c1=>Cb (((l1:Nat):Int)==2) (LdV b1 2 (At w) fun v13 =>
 OpS v13 fun p2 l2 c2=>IdxS p2 l2 0 16 fun b2 o1=>LdA 16 b2 o1 (At w) fun cs7=>DoQ Tryz.prog (Instr.build 37 #[(0,.int .u8 5)]) (At w) fun v14=>OpA 16 v14 fun cs8
 => EqB Tryz.prog .eql 37 (.tmp 37) (.tmp 38) (.agg cs7:Value) (.agg cs8:Value) (At w) fun g=>Cb g (LdV b1 2 (At w) fun v15=>OpS v15 fun p3 l3 c3=>IdxS p3 l3 1 16
 fun b3 o2=>LdA 16 b3 o2 (At w) fun cs9=>DoQ Tryz.prog (Instr.build 37 #[(0,.int .u8 6)]) (At w) fun v16=>OpA 16 v16 fun cs10=>EqB Tryz.prog .eql 37 (.tmp 45)
 (.tmp 46) (.agg cs9:Value) (.agg cs10:Value) (At w) fun g1=>Cb g1 (zB Tryz.prog 18 #[.pointer (some ⟨b,o,none⟩)] w fun v17 w=>OpI .i64 v17 fun n2=>Ret [] (R
 (.bool (n2==1)) w)) (Ret [] (R (.bool false) w))) (Ret [] (R (.bool false) w))) (Ret [] (R (.bool false) w))) (Ret [] (R (.bool false) w)))))
theorem C_ravelintop_arrayWakes  {w:World} {R:Value→World→Prop} (h:F_ravelintop_arrayWakes  w R):zB Tryz.prog 14 #[] w R:=by
 exact zE (args:=[]) (mkAnn [] [] [] [] [100006]) zD Tryz.func14 rfl rfl (by kernel_rfl) h
end Go.Proofs
namespace Go.Proofs
open Go Go.Ev Go.RowKit
set_option maxRecDepth 100000
def formG (a b c:Int):Geo:=⟨a % 4+4,b % 3+1,c % 3+1⟩
theorem formG_ok {a b c:Int}:GeoOk (formG a b c):=by
 have h1:=Int.emod_nonneg a (show (4:Int)≠0 by decide)
 have h2:=Int.emod_lt_of_pos a (show (0:Int)<4 by decide)
 have h3:=Int.emod_nonneg b (show (3:Int)≠0 by decide)
 have h4:=Int.emod_lt_of_pos b (show (0:Int)<3 by decide)
 have h5:=Int.emod_nonneg c (show (3:Int)≠0 by decide)
 have h6:=Int.emod_lt_of_pos c (show (0:Int)<3 by decide)
 exact ⟨⟨by show 4≤a % 4+4;omega,by show a % 4+4≤32;omega⟩,⟨by show 1≤b % 3+1;omega,by show b % 3+1≤8;omega⟩,⟨by show 1≤c % 3+1;omega,by show c % 3+1≤64;omega⟩⟩
def oneS (n k:Int):Sec:=sec [IntKind.wrap .u8 n,IntKind.wrap .u8 (ishr .i64 n 8),IntKind.wrap .u8 k,1]
theorem oneS_ok (n k:Int):SecOk (oneS n k):=sec_ok (by intro y hy;simp only [List.mem_cons,List.not_mem_nil,or_false] at hy;rcases hy with rfl | rfl | rfl | rfl <;> first | exact wrap8 _ | decide)
theorem bld_sec4 (a b c d:Int) (w:World):(Instr.build 37 #[(0,.int .u8 a),(1,.int .u8 b),(2,.int .u8 c),(3,.int .u8 d)]).run Tryz.prog w=.ok (.agg (secV (sec [a,b,c,d]))) w:=run_build _ _ _ _ (by kernel_rfl)
theorem ArS.not {w:World} {q:AB} {lk:Int} {s:AS} (h:ArAt w q lk s) {k:Nat} {cs:Array Value} {t:TypeId} {f:Nat×Nat} (hk:Has w k (.cells cs t f)) (h1:t≠5) (h2:t≠209) (h3:t≠214) (h4:t≠220) (h5:t≠260) (h6:t≠153) (h7:t≠143) (h8:t≠229):¬ ArS q w k:=by
 rintro (e | e)
 ·exact ArF.not h hk h1 h2 h3 h4 h5 h6 h7 e
 ·exact typ_ne hk (show Has w _ _ from h.desk) h8 e
theorem own_arS {w w':World} {q:AB} {lk:Int} {s:AS} (h:ArAt w q lk s) (k:Keep (ArS q w) w w') {b:Nat} {p:Option Addr} {l c:Nat} {xs:List Sec} (o:OwnL secLay w b 37 p l c xs):OwnL secLay w' b 37 p l c xs :=
 o.keep k fun b hb=>by
  obtain ⟨_,cur,hh⟩:=own_has o b 0 hb
  exact ArS.not h hh (by decide) (by decide) (by decide) (by decide) (by decide) (by decide) (by decide) (by decide)
theorem ArFrom.re {q:AB} {n p c mp:Nat} (h:ArFrom q n) (hp:n≤p) (hmp:n≤mp):ArFrom (q.re p c mp) n:=⟨h.a,h.dk,hp,hmp,h.m,h.ra,h.rb,h.base,h.disks⟩
section calls
variable {w:World} {R:Value→World→Prop}
theorem w_form {a b c:Int} (ha:0≤a∧a≤255) (hb:0≤b∧b≤255) (hc:0≤c∧c≤255) (hK:∀ w',Keep (fun _=>False) w w'→R (.agg (geoV (formG a b c))) w'):zB Tryz.prog 12 #[.int .u8 a,.int .u8 b,.int .u8 c] w R:=by
 apply C_ravelintop_form
 unfold F_ravelintop_form
 refine alc_fresh fun w1 hb1 k1 z1=>?_
 refine ⟨by decide,by decide,by decide,?_⟩
 have h1:=Int.emod_nonneg a (show (4:Int)≠0 by decide)
 have h2:=Int.emod_lt_of_pos a (show (0:Int)<4 by decide)
 have h3:=Int.emod_nonneg b (show (3:Int)≠0 by decide)
 have h4:=Int.emod_lt_of_pos b (show (0:Int)<3 by decide)
 have h5:=Int.emod_nonneg c (show (3:Int)≠0 by decide)
 have h6:=Int.emod_lt_of_pos c (show (0:Int)<3 by decide)
 rw [Int.tmod_eq_emod_of_nonneg ha.1,Int.tmod_eq_emod_of_nonneg hb.1,Int.tmod_eq_emod_of_nonneg hc.1,wrapI (x:=a % 4) (by omega) (by omega),wrapI (x:=b % 3) (by omega) (by omega),wrapI (x:=c % 3) (by omega) (by omega),wrapI (x:=a % 4+4) (by omega) (by omega),wrapI (x:=b % 3+1) (by omega) (by omega),wrapI (x:=c % 3+1) (by omega) (by omega)]
 refine DoQ_of (v:=.agg (geoV (formG a b c))) (fun _=>run_build _ _ _ _ (by kernel_rfl)) (OpA_agg.2 ⟨rfl,?_⟩)
 refine StA_all hb1 rfl (by kernel_rfl) (one_geoV _) ?_
 refine LdA_all (hb1.upd_same _) rfl (Ret_nil.2 (hK _ ?_))
 exact k1.trans' ((Keep.refl (fun k=>k=w.heap.size) _).upd (fun _=>rfl) _) fun i hi e=>by omega
theorem w_one {n k:Int} (hK:∀ w',Keep (fun _=>False) w w'→R (.agg (secV (oneS n k))) w'):zB Tryz.prog 17 #[.int .i64 n,.int .i64 k] w R:=by
 apply C_ravelintop_one
 unfold F_ravelintop_one
 refine alc_fresh fun w1 hb1 k1 z1=>⟨by decide,?_⟩
 refine DoQ_of (v:=.agg (secV (oneS n k))) (fun _=>bld_sec4 _ _ _ _ _) (OpA_agg.2 ⟨rfl,?_⟩)
 refine StA_all hb1 rfl (by rw [zc_sec];rfl) (one_secV _) ?_
 refine LdA_all (hb1.upd_same _) rfl (Ret_nil.2 (hK _ ?_))
 exact k1.trans' ((Keep.refl (fun k=>k=w.heap.size) _).upd (fun _=>rfl) _) fun i hi e=>by omega
theorem wa_new {q:AB} {g:Geo} (hg:GeoOk g) (hqg:q.g=g) (hroom:1≤q.pb.room) (x y:Int):WaI q (arS0 g) 0 x y 0 0 0 now0 (arS0 g):=by
 refine ⟨qv_new hg hqg x y,⟨fun _=>⟨[],⟨by simp,rfl⟩,MemOk.nil _,Or.inl rfl,by simp⟩,fun _=>⟨[],⟨by simp,rfl⟩,MemOk.nil _,Or.inl rfl,by simp⟩⟩,Downs.refl _,?_,Int.le_refl _,Int.le_refl _,Int.le_refl _,Int.le_refl _,like_refl _,fun _=>rfl,fun _=>rfl⟩
 show (0:Int)≤_
 omega
theorem use_new (g:Geo) (f:Bool):Use (arS0 g) 0 f:=⟨by cases f <;> rfl,by cases f <;> rfl,by cases f <;> rfl,Or.inr ⟨by cases f <;> rfl,rfl⟩,Int.le_refl _⟩
theorem WaI.putC {q:AB} {s0 s:AS} {ep x y S A L:Int} {fin:Int→Sec} {f:Bool} {lk:Int} (hR:WaI q s0 ep x y S A L fin s) (u:Use s0 ep f) (h:ArAt w q lk s) (hz:q.pb.sz=65536) (hroom:1≤q.pb.room∧q.pb.room≤64) (hA:A≤50000) (hS:S≤900000) (hL:L≤900000) (hcap:capG20 q.g≤100000) {l:Int} {d:Sec} (hd:SecOk d) (h0:0≤l) (h1:l<capG20 q.g)
  (hK:∀ s' w',ArAt w' q lk s'→Keep (ArF q w) w w'→WaI q s0 ep x y (S+17) (A+518) (L+2) (upd fin l d) s'→s'.ps.es≠[]→R (.int .i64 0) w') :
  zB Tryz.prog 82 #[.pointer (some ⟨q.a,0,none⟩),.int .i64 (sideN f),.int .i64 l,.agg (secV d)] w R:=by
 refine ar_putI h f (fun s'=>s'=s∨(WaI q s0 ep x y (S+15) (A+444) (L+1) fin s'∧(s'.ps.es.length:Int)<q.pb.room)) (fun _=>False) (Or.inl rfl) ?_ ?_ ?_ (fun e s2 w' _ hb=>hb.elim)
 ·rintro s2 w2 R2 hiv2 h2 hg hr2 hh2
  rcases hiv2 with rfl | ⟨_,hb⟩
  ·refine hR.outC u hz hroom.2 (by omega) (by omega) (by omega) hcap h2 (fun e=>by rw [e] at hr2;have hr2:q.pb.room≤0:=hr2;omega) fun p w3 hp h3 k3 hR3 he3=>?_
   have hlt:=del_lt hp
   have:=hR.room
   refine hh2 0 _ w3 h3 k3 (Or.inl ⟨rfl,Or.inr ⟨hR3,by rw [he3];omega⟩,by rw [he3];exact hlt⟩)
  ·omega
 ·rintro s2 hiv2 g _
  rcases hiv2 with rfl | ⟨hR2,_⟩
  ·exact hR.roomM hz (by omega) g
  ·exact hR2.roomM hz (by omega) g
 ·rintro s2 w2 hiv2 hor h2 k2
  have hR2:WaI q s0 ep x y (S+15) (A+444) (L+1) fin s2:=by
   rcases hiv2 with rfl | ⟨hR2,_⟩
   ·exact hR.mono (by omega) (by omega) (by omega)
   ·exact hR2
  obtain ⟨p1,p2⟩:=hR2.put u hz (by omega) (by omega) (by omega) hcap hd h0 h1 hor
  have hes:(putP q.pb.room q.pb.sz s2.ps f l d).2.es≠[]:=by
   have e1:=hR2.steps
   have e2:=hR2.a
   have e3:=hR2.b
   have e4:=hR2.last
   have hroom2:mlook s2.ps.es l=none→(s2.ps.es.length:Int)<q.pb.room:=fun hn=>by
    rcases hor with hr | hr
    ·unfold getV at hr
     rw [hn] at hr
     exact absurd hr (by decide)
    ·exact hr
   obtain ⟨_,_,_,q4⟩:=hR2.qv.put (f:=f) hd h0 h1 (by rw [hR2.like.ua,hR2.like.ub];exact u.up) hroom2 (by omega) (by omega) (by rw [hz];omega) (by rw [hz];omega) hcap
   rw [q4]
   intro hnil
   have:=look_ins s2.ps.es l l (d,s2.ps.last+1)
   rw [hnil,if_pos rfl] at this
   cases this
  rw [p1]
  exact hK _ w2 h2 k2 (p2.mono (by omega) (by omega) (by omega)) hes
theorem w_wakes (hK:∀ w',Keep (fun _=>False) w w'→R (.bool true) w'):zB Tryz.prog 14 #[] w R:=by
 apply C_ravelintop_arrayWakes
 unfold F_ravelintop_arrayWakes
 refine DoQ_of (v:=.agg (geoV g4)) (fun _=>run_build _ _ _ _ (by kernel_rfl)) (OpA_agg.2 ⟨rfl,?_⟩)
 refine ar_New g4_ok (by decide) (by decide) fun q w1 hqg hqr hqs h1 hf k1=>T2_mk.2 (OpN_some.2 (zA.2 ⟨rfl,rfl,(Cb_false (p:=_)).2 ?_⟩))
 refine DoQ_of (v:=.agg (secV (sec [5]))) (fun _=>bld_sec1 _ _) (OpA_agg.2 ⟨rfl,?_⟩)
 refine DoQ_of (v:=.agg (secV (sec [6]))) (fun _=>bld_sec1 _ _) (OpA_agg.2 ⟨rfl,?_⟩)
 refine ⟨_,_,bsl_s2 _ _ w1,zC.2 ?_⟩
 have k2:Keep (fun _=>False) w1 (w1.alloc (.cells (secV (sec [5])++secV (sec [6])) 37)):=Keep.new _ _ _
 have hb2:Has (w1.alloc (.cells (secV (sec [5])++secV (sec [6])) 37)) w1.heap.size (.cells (secV (sec [5])++secV (sec [6])) 37 (0,0)):=Has.new _ _
 have o2:OwnL secLay _ w1.heap.size 37 (some ⟨w1.heap.size,0,none⟩) 2 2 [sec [5],sec [6]]:=OwnL.mk (xs:=[sec [5],sec [6]]) (Nat.le_refl _) hb2 (by simp [maxLen]) (by simp [Lay.rows,secLay])
 generalize w1.alloc (.cells (secV (sec [5])++secV (sec [6])) 37)=w2 at *
 generalize w1.heap.size=pb at *
 refine DoQ_of (v:=.agg (cmdC ⟨3,1,0,some ⟨pb,0,none⟩,2,2,0,0,false⟩)) (fun _=>run_build _ _ _ _ (by kernel_rfl)) (OpA_agg.2 ⟨rfl,?_⟩)
 have h2:=h1.keep0 k2
 have k02:=k1.trans k2
 have hcap4:capG20 q.g=4:=by rw [hqg];rfl
 have ok5:SecOk (sec [5]):=sec_ok (by simp)
 have ok6:SecOk (sec [6]):=sec_ok (by simp)
 have u0:=fun f=>use_new g4 f
 have hI0:=wa_new (q:=q) g4_ok hqg (by rw [hqr];decide) 0 0
 refine ar_DoWrite (c:=⟨3,1,0,some ⟨pb,0,none⟩,2,2,0,0,false⟩) (xs:=[sec [5],sec [6]]) h2 false rfl (hI0.ready (u0 false)) rfl (alone_none false (hI0.alone (u0 false))) (by show (gateD dk0 _ _ _).2=false;exact gate_rw1 (Or.inr rfl) (by show (1:Int)≤2;decide) (by show (2:Int)≤8;decide) (by show (0:Int)≤1;decide) (by show (1:Int)+2≤capG20 q.g;omega) (by decide)) rfl (fun w' k=>((SlT.of o2).keepB k fun i cur hh=>ArF.not h2 hh (by decide) (by decide) (by decide) (by decide) (by decide) (by decide) (by decide)).sl)
  (fun k s'=>(k=0∧s'=arS0 g4)∨(k=1∧WaI q (arS0 g4) 0 0 0 17 518 2 (upd now0 1 (sec [5])) s')∨(k=2∧WaI q (arS0 g4) 0 0 0 34 1036 4 (upd (upd now0 1 (sec [5])) 2 (sec [6])) s'∧s'.ps.es≠[])) (fun _=>False) (Or.inl ⟨rfl,rfl⟩) ?_ ?_ (fun _ _ h=>h.elim)
 ·rintro k v s1 w3 R1 hx hiv h3 hn
  rcases hiv with ⟨rfl,rfl⟩ | ⟨rfl,hI⟩ | ⟨rfl,_⟩
  ·cases hx
   refine hI0.putC (u0 false) h3 hqs (by rw [hqr];decide) (by decide) (by decide) (by decide) (by omega) ok5 (l:=1) (by decide) (by omega) fun s' w' h' k' hI' _=>hn 0 s' w' h' k' (Or.inl ⟨rfl,Or.inr (Or.inl ⟨rfl,hI'⟩)⟩)
  ·cases hx
   refine hI.putC (u0 false) h3 hqs (by rw [hqr];decide) (by decide) (by decide) (by decide) (by omega) ok6 (l:=2) (by decide) (by omega) fun s' w' h' k' hI' hne=>hn 0 s' w' h' k' (Or.inl ⟨rfl,Or.inr (Or.inr ⟨rfl,hI',hne⟩)⟩)
  ·cases hx
 rintro s' w3 hiv h3 k3
 obtain ⟨hI,hne⟩:WaI q (arS0 g4) 0 0 0 34 1036 4 (upd (upd now0 1 (sec [5])) 2 (sec [6])) s'∧s'.ps.es≠[]:=by
  rcases hiv with ⟨h,_⟩ | ⟨h,_⟩ | ⟨_,h⟩
  ·cases h
  ·cases h
  ·exact h
 refine OpA_agg.2 ⟨rfl,?_⟩
 have k03:Keep (fun _=>False) w w3:=k02.trans' k3 fun i hi e=>by have:=ArF.low hf e;omega
 clear h2 o2 hb2 k2 k3
 refine DoQ_of (v:=.agg (cmdC ⟨2,1,2,none,0,0,0,0,false⟩)) (fun _=>run_build _ _ _ _ (by kernel_rfl)) (OpA_agg.2 ⟨rfl,?_⟩)
 obtain ⟨now,hg,_⟩:=hI.qv.good
 have r1:=hI.qv.read (l:=1) (by decide) (by omega)
 have r2:=hI.qv.read (l:=2) (by decide) (by omega)
 have e1:upd (upd now0 1 (sec [5])) 2 (sec [6]) 1=sec [5]:=rfl
 have e2:upd (upd now0 1 (sec [5])) 2 (sec [6]) 2=sec [6]:=rfl
 rw [e1] at r1
 rw [e2] at r2
 refine ar_DoRead (c:=⟨2,1,2,none,0,0,0,0,false⟩) h3 true rfl (hI.ready (u0 true)) rfl (alone_none true (hI.alone (u0 true))) (gate_any (by rw [hI.like.d];rfl) (Or.inl rfl) (by show (1:Int)≤2;decide) (by show (2:Int)≤8;decide) (by show (0:Int)≤1;decide) (by show (1:Int)+2≤capG20 q.g;omega) (by decide)) hg.ss.ok (fun k hk=>?_) fun p cc w4 h4 k4 o4=>OpA_agg.2 ⟨rfl,?_⟩
 ·have hk:(k:Int)<2:=hk
  have:k=0∨k=1:=by omega
  rcases this with rfl | rfl
  ·show (readA q s' 1).2=0;rw [r1]
  ·show (readA q s' 2).2=0;rw [r2]
 have hrs:readsA q s' 1 (2:Int).toNat=[sec [5],sec [6]]:=by
  show [(readA q s' 1).1,(readA q s' 2).1]=_
  rw [r1,r2]
 have o4:OwnL secLay w4 w3.heap.size 37 p 2 cc (readsA q s' 1 (2:Int).toNat):=o4
 rw [hrs] at o4
 have k04:Keep (fun _=>False) w w4:=k03.trans' k4 fun i hi e=>by have:=ArF.low hf e;omega
 refine copy_of (by rw [zc_rep];rfl) rfl (one_repC _ _ _ _ _) fun w5 hb5 k5 z5=>?_
 have o5:=o4.keep k5 (by simp)
 have h5:=h4.keep0 k5
 refine LdV_has (v:=.int .i64 1) hb5 rfl (zA.2 ((Cb_true (q:=_)).2 ?_))
 refine LdV_has (v:=.slice p 2 cc) hb5 rfl (zC.2 ((Cb_true (q:=_)).2 ?_))
 refine LdV_has (v:=.slice p 2 cc) hb5 rfl (zC.2 ?_)
 refine o5.ldA (x:=sec [5]) rfl (by decide) rfl ?_
 rw [evS]
 refine DoQ_of (v:=.agg (secV (sec [5]))) (fun _=>bld_sec1 _ _) (OpA_agg.2 ⟨rfl,?_⟩)
 refine EqB_sec ok5 ok5 fun r hr=>?_
 rw [hr.2 rfl]
 refine (Cb_true (q:=_)).2 ?_
 refine LdV_has (v:=.slice p 2 cc) hb5 rfl (zC.2 ?_)
 refine o5.ldA (x:=sec [6]) rfl (by decide) rfl ?_
 rw [evS]
 refine DoQ_of (v:=.agg (secV (sec [6]))) (fun _=>bld_sec1 _ _) (OpA_agg.2 ⟨rfl,?_⟩)
 refine EqB_sec ok6 ok6 fun r hr=>?_
 rw [hr.2 rfl]
 refine (Cb_true (q:=_)).2 ?_
 refine ar_Dirty h5 (zA.2 (Ret_nil.2 ?_))
 have hlen:s'.ps.es.length=1:=by
  have h6:=hI.room
  rw [hqr] at h6
  have:s'.ps.es.length≠0:=fun e=>hne (List.length_eq_zero_iff.1 e)
  omega
 rw [hlen]
 exact hK w5 (k04.trans k5)
end calls
end Go.Proofs
namespace Go.Proofs
open Go Go.Ev
set_option maxRecDepth 100000
def cntG (c:Cmd):Int:=if c.k=2∨c.k=6 then c.n else if c.k=3 then (c.dl:Int) else if c.k=5∧c.dl=2 then 1 else 0
def cdG (c:Cmd) (cap:Int):Int:=if c.k=1∨c.k=4 then 0 else if cntG c<1∨8<cntG c∨c.lba<0∨cap<cntG c∨cap-cntG c<c.lba then 2 else 0
def gateG (d:Dk) (cap init:Int) (c:Cmd):(Int×Int)×Bool :=
 if init<0∨16≤init∨cdG c cap≠0 then ((2,5),true) else if c.k=2 then ((3,0),!mayD d init false) else if c.k=3∨c.k=5∨c.k=6 then ((3,0),!mayD d init true) else ((0,0),false)
section calls
variable {w:World} {R:Value→World→Prop}
theorem cd_CheckG {c:Cmd} (hk:¬ (7≤c.k∧c.k≤11)) {cap:Int} (hc0:0≤cap) (hc1:cap≤1000000) (hK:∀ w',Keep (fun _=>False) w w'→R (.int .i64 (cdG c cap)) w'):zB Tryz.prog 147 #[.agg (cmdC c),.int .i64 cap] w R:=by
 apply C_cdb_Check
 unfold F_cdb_Check
 refine alc_fresh fun w1 hb1 k1 z1=>?_
 refine LdV_has (v:=.int .i64 c.k) hb1 rfl (zA.2 ?_)
 have hd:∀ a b:Int,(a==b)=decide (a=b):=fun a b=>by rw [Bool.eq_iff_iff];simp
 have n7:(c.k==7)=false:=by rw [hd];exact decide_eq_false (by omega)
 have n8:(c.k==8)=false:=by rw [hd];exact decide_eq_false (by omega)
 have n9:(c.k==9)=false:=by rw [hd];exact decide_eq_false (by omega)
 have n10:(c.k==10)=false:=by rw [hd];exact decide_eq_false (by omega)
 have n11:(c.k==11)=false:=by rw [hd];exact decide_eq_false (by omega)
 simp only [n7,n8,n9,n10,n11]
 unfold cdG at hK
 refine ⟨fun st w'=>w'=w1∧st.1=cntG c∧¬ (c.k=1∨c.k=4),?_,?_⟩
 ·refine ⟨fun st w'=>w'=w1∧st.1=decide (c.k=1∨c.k=4),?_,?_⟩
  ·refine Cb_of (fun h=>⟨rfl,?_⟩) (fun h=>Cb_of (fun h2=>⟨rfl,?_⟩) (fun h2=>(Cb_false (p:=_)).2 ((Cb_false (p:=_)).2 ⟨rfl,?_⟩)))
   ·show (c.k==1)=_
    rw [h]
    have:c.k=1:=by simpa using h
    exact (decide_eq_true (Or.inl this)).symm
   ·show (c.k==4)=_
    rw [h2]
    have:c.k=4:=by simpa using h2
    exact (decide_eq_true (Or.inr this)).symm
   ·have e1:¬ c.k=1:=by simpa using h
    have e2:¬ c.k=4:=by simpa using h2
    exact (decide_eq_false (by rintro (e | e) <;> contradiction)).symm
  rintro _ ⟨b,u⟩ w2 ⟨rfl,hb⟩
  simp only at hb ⊢
  subst hb
  refine Cb_of (fun h4=>?_) (fun h4=>?_)
  ·have h4:=of_decide_eq_true h4
   rw [if_pos h4] at hK
   exact Ret_nil.2 (hK w2 k1)
  have h4:=of_decide_eq_false h4
  refine (Cb_false (p:=_)).2 ((Cb_false (p:=_)).2 ⟨fun st w'=>w'=w2∧st.1=decide (c.k=2∨c.k=6),?_,?_⟩)
  ·refine Cb_of (fun h=>⟨rfl,?_⟩) (fun h=>⟨rfl,?_⟩)
   ·show (c.k==2)=_
    rw [h]
    have:c.k=2:=by simpa using h
    exact (decide_eq_true (Or.inl this)).symm
   ·show (c.k==6)=_
    have h:¬ c.k=2:=by simpa using h
    rw [hd]
    by_cases h6:c.k=6
    ·rw [decide_eq_true h6,decide_eq_true (Or.inr h6)]
    ·rw [decide_eq_false h6,decide_eq_false (by rintro (e | e) <;> contradiction)]
  rintro _ ⟨b,u⟩ w3 ⟨rfl,hb⟩
  simp only at hb ⊢
  subst hb
  refine Cb_of (fun h2=>?_) (fun h2=>?_)
  ·have h2:=of_decide_eq_true h2
   exact LdV_has (v:=.int .i64 c.n) hb1 rfl (zA.2 ⟨by trivial,by unfold cntG;rw [if_pos h2],h4⟩)
  have h2:=of_decide_eq_false h2
  refine Cb_of (fun h3=>?_) (fun h3=>?_)
  ·have h3:c.k=3:=by simpa using h3
   exact LdV_has (v:=.slice c.dp c.dl c.dc) hb1 rfl (zC.2 ⟨by trivial,by unfold cntG;rw [if_neg h2,if_pos h3],h4⟩)
  have h3:¬ c.k=3:=by simpa using h3
  refine Cb_of (fun h5=>?_) (fun h5=>?_)
  ·have h5:c.k=5:=by simpa using h5
   refine LdV_has (v:=.slice c.dp c.dl c.dc) hb1 rfl (zC.2 ?_)
   refine Cb_of (fun hl=>⟨by trivial,?_,h4⟩) (fun hl=>⟨by trivial,?_,h4⟩)
   ·have hl:c.dl=2:=by simp at hl;omega
    unfold cntG;rw [if_neg h2,if_neg h3,if_pos ⟨h5,hl⟩]
   ·have hl:¬ c.dl=2:=by simp at hl;omega
    unfold cntG;rw [if_neg h2,if_neg h3,if_neg (fun e=>hl e.2)]
  have h5:¬ c.k=5:=by simpa using h5
  exact ⟨by trivial,by unfold cntG;rw [if_neg h2,if_neg h3,if_neg (fun e=>h5 e.1)],h4⟩
 rintro _ ⟨n,u⟩ w2 ⟨rfl,hn,h4⟩
 simp only at hn ⊢
 subst hn
 rw [if_neg h4] at hK
 refine ⟨by trivial,by trivial,?_⟩
 refine Cb_of (fun h=>⟨by trivial,by trivial,by trivial,?_⟩) (fun h=>?_)
 ·rw [if_pos (by
   by_cases hx:cntG c<1
   ·exact Or.inl hx
   ·rw [decide_eq_false hx] at h
    exact Or.inr (Or.inl (by simpa using h)))] at hK
  exact Ret_nil.2 (hK w2 k1)
 have h1:¬ cntG c<1:=fun hx=>by rw [decide_eq_true hx] at h;cases h
 have h2:¬ 8<cntG c:=fun hx=>by rw [decide_eq_false h1] at h;simp at h;omega
 refine LdV_has (v:=.int .i64 c.lba) hb1 rfl (zA.2 ⟨by trivial,by trivial,by trivial,?_⟩)
 refine Cb_of (fun h=>?_) (fun h=>?_)
 ·rw [if_pos (by
   by_cases hx:c.lba<0
   ·exact Or.inr (Or.inr (Or.inl hx))
   ·rw [decide_eq_false hx] at h
    exact Or.inr (Or.inr (Or.inr (Or.inl (by simpa using h)))))] at hK
  exact Ret_nil.2 (hK w2 k1)
 have h3:¬ c.lba<0:=fun hx=>by rw [decide_eq_true hx] at h;cases h
 have h5:¬ cap<cntG c:=fun hx=>by rw [decide_eq_false h3] at h;simp at h;omega
 refine LdV_has (v:=.int .i64 c.lba) hb1 rfl (zA.2 ?_)
 rw [wrapI (by omega) (by omega)]
 refine Cb_of (fun h=>?_) (fun h=>?_)
 ·have h:c.lba>cap-cntG c:=by simpa using h
  rw [if_pos (by omega)] at hK
  exact Ret_nil.2 (hK w2 k1)
 ·have h:¬ c.lba>cap-cntG c:=by simpa using h
  rw [if_neg (by omega)] at hK
  exact Ret_nil.2 (hK w2 k1)
theorem md_GateG {b:Nat} {d:Dk} (hd:DkAt w b d) {c:Cmd} (hk:¬ (7≤c.k∧c.k≤11)) {cap init:Int} (hc0:0≤cap) (hc1:cap≤1000000)
  (hK:∀ w',Keep (fun _=>False) w w'→R (.tuple #[.agg (repC (gateG d cap init c).1.1 (gateG d cap init c).1.2 none 0 0),.bool (gateG d cap init c).2]) w') :
  zB Tryz.prog 80 #[.pointer (some ⟨b,0,none⟩),.int .i64 cap,.int .i64 init,.agg (cmdC c)] w R:=by
 apply C_model_Gate
 unfold F_model_Gate
 unfold gateG at hK
 refine alc_fresh fun w1 hb1 k1 z1=>?_
 refine alc_fresh fun w2 hb2 k2 z2=>?_
 rw [zc_rep] at hb2
 have k02:=k1.trans k2
 have hbc:=k2.has hb1 (by simp)
 have fin:∀ {x y:Int} {w3:World} {g:Bool} {K:Value→World→Prop},Keep (fun _=>False) w2 w3→(∀ w',Keep (fun _=>False) w w'→K (.tuple #[.agg (repC x y none 0 0),.bool g]) w')→StA 3 w1.heap.size 0 (repC x y none 0 0) w3 fun w=>LdA 3 w1.heap.size 0 (At w) fun cs=>Ret [] (K (.tuple #[.agg cs,.bool g]) w):=fun k hh=>by
  have hb:=k.has hb2 (by simp)
  refine StA_all hb rfl rfl (one_repC _ _ _ _ _) (LdA_all (hb.upd_same _) rfl (Ret_nil.2 (hh _ ((k02.trans k).upd (fun hi=>absurd hi (by have:=k1.size;omega)) _))))
 refine ⟨rfl,rfl,?_⟩
 refine Cb_of (fun h=>?_) (fun h=>?_)
 ·rw [if_pos (by
   by_cases hx:init<0
   ·exact Or.inl hx
   ·rw [decide_eq_false hx] at h
    exact Or.inr (Or.inl (by simpa using h)))] at hK
  exact DoQ_of (fun _=>bld_rep2 2 5 _) (OpA_agg.2 ⟨rfl,fin (Keep.refl _ _) hK⟩)
 have h1:¬ init<0:=fun hx=>by rw [decide_eq_true hx] at h;cases h
 have h2:¬ 16≤init:=fun hx=>by rw [decide_eq_false h1] at h;simp at h;omega
 refine LdA_all hbc rfl ?_
 refine cd_CheckG hk hc0 hc1 fun w3 k3=>zA.2 ?_
 refine Cb_of (fun h=>?_) (fun h=>?_)
 ·have h:¬ cdG c cap=0:=by simpa using h
  rw [if_pos (Or.inr (Or.inr h))] at hK
  exact DoQ_of (fun _=>bld_rep2 2 5 _) (OpA_agg.2 ⟨rfl,fin k3 hK⟩)
 have h3:cdG c cap=0:=by simpa using h
 rw [if_neg (by rintro (h | h | h) <;> contradiction)] at hK
 have hd3:DkAt w3 b d:=(k02.trans k3).has (show Has w _ _ from hd) (by simp)
 refine LdV_has (v:=.int .i64 c.k) (k3.has hbc (by simp)) rfl (zA.2 ?_)
 have hdd:∀ a b:Int,(a==b)=decide (a=b):=fun a b=>by rw [Bool.eq_iff_iff];simp
 have n7:(c.k==7)=false:=by rw [hdd];exact decide_eq_false (by omega)
 have n8:(c.k==8)=false:=by rw [hdd];exact decide_eq_false (by omega)
 have n9:(c.k==9)=false:=by rw [hdd];exact decide_eq_false (by omega)
 have n10:(c.k==10)=false:=by rw [hdd];exact decide_eq_false (by omega)
 have n11:(c.k==11)=false:=by rw [hdd];exact decide_eq_false (by omega)
 simp only [n7,n8,n9,n10,n11]
 refine ⟨fun _ _=>False,?_,fun _ _ _ h=>h.elim⟩
 refine Cb_of (fun h=>?_) (fun h=>?_)
 ·have h:c.k=2:=by simpa using h
  rw [if_pos h] at hK
  exact DoQ_of (fun _=>bld_rep1 3 _) (OpA_agg.2 ⟨rfl,rs_May hd3 init false (OpB_bool.2 (fin k3 hK))⟩)
 have h:¬ c.k=2:=by simpa using h
 rw [if_neg h] at hK
 refine ⟨fun st w'=>st.1=decide (c.k=3∨c.k=5∨c.k=6)∧w'=w3,?_,?_⟩
 ·refine Cb_of (fun h3=>⟨?_,rfl⟩) (fun h3=>Cb_of (fun h5=>⟨?_,rfl⟩) (fun h5=>⟨?_,rfl⟩))
  ·show (c.k==3)=_
   rw [h3]
   have:c.k=3:=by simpa using h3
   exact (decide_eq_true (Or.inl this)).symm
  ·show (c.k==5)=_
   rw [h5]
   have:c.k=5:=by simpa using h5
   exact (decide_eq_true (Or.inr (Or.inl this))).symm
  ·show (c.k==6)=_
   have h3:¬ c.k=3:=by simpa using h3
   have h5:¬ c.k=5:=by simpa using h5
   rw [hdd]
   by_cases h6:c.k=6
   ·rw [decide_eq_true h6,decide_eq_true (Or.inr (Or.inr h6))]
   ·rw [decide_eq_false h6,decide_eq_false (by rintro (e | e | e) <;> contradiction)]
 rintro _ ⟨g,u⟩ w4 ⟨hg,rfl⟩
 simp only at hg ⊢
 subst hg
 refine Cb_of (fun h=>?_) (fun h=>?_)
 ·rw [if_pos (of_decide_eq_true h)] at hK
  exact DoQ_of (fun _=>bld_rep1 3 _) (OpA_agg.2 ⟨rfl,rs_May hd3 init true (OpB_bool.2 (fin k3 hK))⟩)
 ·rw [if_neg (of_decide_eq_false h)] at hK
  exact (Cb_false (p:=_)).2 ((Cb_false (p:=_)).2 ((Cb_false (p:=_)).2 ((Cb_false (p:=_)).2 ((Cb_false (p:=_)).2 (DoQ_of (fun _=>bld_rep0 _) (OpA_agg.2 ⟨rfl,fin k3 hK⟩))))))
end calls
section calls
variable {w w0:World} {q:AB} {s:AS} {b b1:Nat} {c:Cmd} {R:Value→World→Prop}
theorem ar_DoOpenG (h:ArAt w q 0 s) (f:Bool) {init:Int} (hk:¬ (7≤c.k∧c.k≤11)) (hr:readyA s f=true) {s':AS} (hd:s'.d=s.d)
  (ha:∀ (w1:World) (R1:Value→World→Prop),ArAt w1 q 1 s→(∀ w2,ArAt w2 q 1 s'→Keep (ArF q w1) w1 w2→R1 (.int .i64 0) w2)→zB Tryz.prog 79 #[.pointer (some ⟨q.a,0,none⟩),.int .i64 (sideN f)] w1 R1)
  (hK1:(gateG s.d ((q.g.d-2)*q.g.c*q.g.s) init c).2=true→∀ w',ArAt w' q 0 s'→Keep (ArF q w) w w'→R (.agg (repC (gateG s.d ((q.g.d-2)*q.g.c*q.g.s) init c).1.1 (gateG s.d ((q.g.d-2)*q.g.c*q.g.s) init c).1.2 none 0 0)) w')
  (hK2:(gateG s.d ((q.g.d-2)*q.g.c*q.g.s) init c).2=false→∀ b b1 w',DoSt w w' q s' b b1 c→DoBody q.a (sideN f) b b1 w' R) :
  zB Tryz.prog 16 #[.pointer (some ⟨q.a,0,none⟩),.int .i64 (sideN f),.int .i64 init,.agg (cmdC c)] w R:=by
 apply C_array_Array_Do
 unfold F_array_Array_Do
 have hcap:2≤(q.g.d-2)*q.g.c*q.g.s∧(q.g.d-2)*q.g.c*q.g.s≤15360:=h.set.geo.cap
 have hon:s.ps.pw.on=true:=by unfold readyA at hr;cases he:s.ps.pw.on with
  | true=>rfl
  | false=>rw [he] at hr;cases hr
 refine alc_fresh fun w1 hb1 k1 z1=>?_
 refine alc_fresh fun w2 hb2 k2 z2=>?_
 rw [zc_rep] at hb2
 have hb1':=k2.has hb1 (by simp)
 refine ar_lock (h.keep0 (k1.trans k2)) fun w3 h3 k3=>?_
 have tne:∀ {i:Nat} {cs:Array Value} {t:TypeId},Has w2 i (.cells cs t (0,0))→t≠143→¬ i=q.a:=by
  intro i cs t hi ht e
  subst e
  have:=hi.inj (h.keep0 (k1.trans k2)).cells
  simp only [Obj.cells.injEq] at this
  exact ht this.2.1
 have hS:DoSt w w3 q s w.heap.size w1.heap.size c:=⟨h3,k3.has hb1' (tne hb1' (by decide)),k3.has hb2 (tne hb2 (by decide)),(ArF.none (k1.trans k2)).trans' k3 fun i hi e=>Or.inl e,Nat.le_refl _,by omega⟩
 clear hb1 hb2 k1 k2 k3 hb1' h3 tne
 refine ar_on hS.ar (ma_On hS.ar.pair.main (OpB_bool.2 ?_))
 rw [hon]
 refine (Cb_false (p:=_)).2 ⟨rfl,rfl,?_⟩
 have e:(cond (decide (sideN f<0)) true (decide (sideN f>1)))=false:=by cases f <;> rfl
 rw [e]
 refine (Cb_false (p:=_)).2 ?_
 refine ar_ready hS.ar f fun w4 k4=>OpB_bool.2 ?_
 rw [hr]
 refine (Cb_false (p:=_)).2 ?_
 have hS:=hS.keep0 k4
 clear k4
 refine ha w4 _ hS.ar fun w4' hA4 k4'=>zA.2 ((Cb_false (p:=_)).2 ?_)
 have hS:=hS.to hA4 k4'
 clear hA4 k4' hr hon
 rw [← hd] at hK1 hK2
 clear h hd ha
 generalize w4'=w4 at *
 revert hS hK1 hK2 hcap
 generalize s'=s
 intro hK1 hK2 hcap hS
 generalize hG:gateG s.d ((q.g.d-2)*q.g.c*q.g.s) init c=G at hK1 hK2
 refine ⟨fun st w'=>st.1.2=0∧st.2.1=G.2∧Has w' st.1.1 (.cells (repC G.1.1 G.1.2 none 0 0) 34 (0,0))∧DoSt w w' q s w.heap.size w1.heap.size c∧w1.heap.size≠st.1.1,?_,?_⟩
 ·intro d
  have hS:=hS.keep0 (Keep.drew _ w4 d)
  generalize w4.dr d=w5 at *
  have hlt:=hS.rep.lt
  have kz:∀ {w7:World},Keep (fun _=>False) w5 w7→w1.heap.size≠w7.heap.size:=fun k=>by have:=k.size;omega
  refine ⟨fun w'=>Has w' q.a (.cells (arC q 1 s) 143 (0,0))∧Has w' w.heap.size (.cells (cmdC c) 41 (0,0)),⟨hS.ar.cells,hS.cmd⟩,?_⟩
  refine LdV_of (v:=.pointer (some ⟨q.dk,0,none⟩)) (fun w' hw=>⟨_,_,_,hw.1,rfl⟩) (OpN_some.2 ?_)
  refine LdA_of (cs:=cmdC c) rfl (fun w' hw=>⟨_,_,_,hw.2,Nat.le_refl 7,rfl⟩) ?_
  have hold:∀ {w7:World},Keep (fun _=>False) w5 w7→Has w7 q.a (.cells (arC q 1 s) 143 (0,0))∧Has w7 w.heap.size (.cells (cmdC c) 41 (0,0)):=fun k=>⟨k.has hS.ar.cells (by simp),k.has hS.cmd (by simp)⟩
  have fin:∀ {w8 w9:World} {x:Nat},DoSt w w8 q s w.heap.size w1.heap.size c→Has w8 x (.cells (repC 0 0 none 0 0) 34 (0,0))→w.heap.size≤x→w1.heap.size≠x →
    StA 3 x 0 (repC G.1.1 G.1.2 none 0 0) w8 fun w6=>Hld (Has w6 q.a (.cells (arC q 1 s) 143 (0,0))∧Has w6 w.heap.size (.cells (cmdC c) 41 (0,0))) (x=x∧(0:Nat)=0∧G.2=G.2∧Has w6 x (.cells (repC G.1.1 G.1.2 none 0 0) 34 (0,0))∧DoSt w w6 q s w.heap.size w1.heap.size c∧w1.heap.size≠x):=fun h8 hx hx0 hx1=>by
   have h9:=h8.tmp hx (Or.inr rfl) hx0 (fun e=>hx1 e.symm) (Keep.one _ _ (.cells (repC G.1.1 G.1.2 none 0 0) 34 (0,0)))
   exact StA_all hx rfl rfl (one_repC _ _ _ _ _) ⟨⟨h9.ar.cells,h9.cmd⟩,rfl,rfl,rfl,hx.upd_same _,h9,hx1⟩
  refine ⟨?_,?_⟩
  ·refine ar_capacity hS.ar fun w6 k6=>zA.2 ⟨hold k6,?_,?_⟩
   ·refine md_GateG (hS.keep0 k6).ar.desk hk (by omega) (by omega) fun w7 k7=>T2_mk.2 (OpA_agg.2 ⟨rfl,OpB_bool.2 ⟨hold (k6.trans k7),?_⟩⟩)
    rw [hG]
    refine alc_fresh fun w8 hb8 k8 z8=>?_
    rw [zc_rep] at hb8
    have k58:=(k6.trans k7).trans k8
    refine ⟨hold k58,?_⟩
    have:=fin (w9:=w8) (hS.keep0 k58) hb8 (Nat.le_trans hS.keep.size (k6.trans k7).size) (kz (k6.trans k7))
    obtain ⟨s1,s2,s3,s4,s6⟩:=this
    exact ⟨s1,s2,s3,s4,s6.2⟩
   ·refine alc_fresh fun w8 hb8 k8 z8=>?_
    rw [zc_rep] at hb8
    refine ⟨hold (k6.trans k8),?_⟩
    refine md_GateG (hS.keep0 (k6.trans k8)).ar.desk hk (by omega) (by omega) fun w7 k7=>T2_mk.2 (OpA_agg.2 ⟨rfl,OpB_bool.2 ⟨hold ((k6.trans k8).trans k7),?_⟩⟩)
    rw [hG]
    have:=fin (w9:=w7) (hS.keep0 ((k6.trans k8).trans k7)) (k7.has hb8 (by simp)) (Nat.le_trans hS.keep.size k6.size) (kz k6)
    obtain ⟨s1,s2,s3,s4,s6⟩:=this
    exact ⟨s1,s2,s3,s4,s6.2⟩
  ·refine alc_fresh fun w8 hb8 k8 z8=>?_
   rw [zc_rep] at hb8
   refine ⟨hold k8,?_⟩
   refine ar_capacity (hS.keep0 k8).ar fun w6 k6=>zA.2 ⟨hold (k8.trans k6),?_⟩
   refine md_GateG (hS.keep0 (k8.trans k6)).ar.desk hk (by omega) (by omega) fun w7 k7=>T2_mk.2 (OpA_agg.2 ⟨rfl,OpB_bool.2 ⟨hold ((k8.trans k6).trans k7),?_⟩⟩)
   rw [hG]
   have:=fin (w9:=w7) (hS.keep0 ((k8.trans k6).trans k7)) ((k6.trans k7).has hb8 (by simp)) hS.keep.size (kz (Keep.refl _ _))
   obtain ⟨s1,s2,s3,s4,s6⟩:=this
   exact ⟨s1,s2,s3,s4,s6.2⟩
 rintro _ ⟨⟨x,o⟩,g,u⟩ w5 ⟨ho,hg,hx,hS5,hne⟩
 simp only at ho hg hx hne ⊢
 subst ho
 subst hg
 refine Cb_of (fun ht=>?_) (fun hf=>hK2 hf _ _ w5 hS5)
 refine LdA_all hx rfl ?_
 exact doEnd hS5 rfl (one_repC _ _ _ _ _) fun w6 h6 k6 _=>hK1 ht w6 h6 k6
theorem gate_test {d:Dk} {cap init:Int} {c:Cmd} (hk:c.k=1∨c.k=4) (h5:0≤init∧init<16):(gateG d cap init c).2=false:=by
 unfold gateG
 have e:cdG c cap=0:=by unfold cdG;rw [if_pos hk]
 rw [if_neg (by rw [e];omega),if_neg (by omega),if_neg (by omega)]
theorem ar_DoTest (h:ArAt w q 0 s) (f:Bool) (hr:readyA s f=true) {s':AS} (hd:s'.d=s.d)
  (ha:∀ (w1:World) (R1:Value→World→Prop),ArAt w1 q 1 s→(∀ w2,ArAt w2 q 1 s'→Keep (ArF q w1) w1 w2→R1 (.int .i64 0) w2)→zB Tryz.prog 79 #[.pointer (some ⟨q.a,0,none⟩),.int .i64 (sideN f)] w1 R1)
  (hK:∀ w',ArAt w' q 0 s'→Keep (ArF q w) w w'→R (.agg (repC 1 0 none 0 0)) w') :
  zB Tryz.prog 16 #[.pointer (some ⟨q.a,0,none⟩),.int .i64 (sideN f),.int .i64 0,.agg (cmdC ⟨1,0,0,none,0,0,0,0,false⟩)] w R:=by
 have hg:(gateG s.d ((q.g.d-2)*q.g.c*q.g.s) 0 ⟨1,0,0,none,0,0,0,0,false⟩).2=false:=gate_test (Or.inl rfl) (by decide)
 refine ar_DoOpenG (c:=⟨1,0,0,none,0,0,0,0,false⟩) h f (by decide) hr hd ha (fun e=>by rw [hg] at e;cases e) fun _ b b1 w1 hS=>?_
 unfold DoBody
 refine DoQ_of (fun _=>bld_rep1 1 _) (OpA_agg.2 ⟨rfl,?_⟩)
 refine copy_of (by rw [zc_rep];rfl) rfl (one_repC _ _ _ _ _) fun w2 hb2 k2 z2=>?_
 have hS2:=hS.keep0 k2
 refine LdV_has (v:=.int .i64 1) hS2.cmd rfl (zA.2 ?_)
 refine ⟨fun _ w'=>w'=w2,?_,?_⟩
 ·refine (Cb_false (p:=_)).2 ⟨fun st w'=>st.1=false∧w'=w2,(Cb_false (p:=_)).2 ⟨rfl,rfl⟩,?_⟩
  rintro _ ⟨g,u⟩ w3 ⟨hg,rfl⟩
  simp only at hg ⊢
  subst hg
  exact (Cb_false (p:=_)).2 ((Cb_false (p:=_)).2 ((Cb_false (p:=_)).2 (by trivial)))
 rintro _ _ w3 rfl
 refine LdA_all hb2 rfl ?_
 exact doEnd hS2 rfl (one_repC _ _ _ _ _) fun w6 h6 k6 _=>hK w6 h6 k6
end calls
end Go.Proofs
namespace Go.Proofs
open Go.Ev
set_option maxRecDepth 100000
def F_ravelintop_WholeTakeover (x:Int) (y:Int) (z:Int) (room:Int) (side:Bool) (beforep:Option Addr) (beforel:Nat) (beforec:Nat) (behindp:Option Addr) (behindl:Nat) (behindc:Nat) (w:World) (R:Value→World→Prop):Prop :=
 zB Tryz.prog 12 #[.int .u8 x,.int .u8 y,.int .u8 z] w fun v w=>OpA 3 v fun cs=>Req ((5:Int)≠0) (zB Tryz.prog 13 #[.agg cs,.int .i64 (IntKind.wrap .i64
 ((Int.tmod (IntKind.wrap .i64 room) 5)+1))] w fun v1 w=>T2 v1 fun v2 v3=>OpN v2 fun b o=>OpI .i64 v3 fun n=>zB Tryz.prog 14 #[] w fun v4 w=>OpB v4 fun g =>
 Req ((!g)=(!g)) (Req ((!g)=(!g)) (Req ((cond (!g) true (n !=0))=(cond (!g) true (n !=0))) (Req ((cond (!g) true (n !=0))=(cond (!g) true (n !=0))) (Cb (cond
 (cond (!g) true (n !=0)) true false) (Ret [] (R (.bool false) w)) (zB Tryz.prog 15 #[.pointer (some ⟨b,o,none⟩)] w fun v5 w=>OpI .i64 v5 fun n1=>DoV Tryz.prog
 (Instr.makeSlice 32 (.int .i64 n1) (.int .i64 n1)) w fun v6 w=>OpS v6 fun p l c=>JoinC (σ:=Int×Int×Unit) (fun J1=>Cb side (J1 (1,(0,())) w) (J1 (0,(1,()))
 w)) (fun _ s1 w=>LoopC (σ:=Int×Unit) (fun _ s2 w K2=>Req ((decide (s2.1<((beforel:Nat):Int)))=(decide (s2.1<((beforel:Nat):Int)))) (Req ((decide
 (s2.1<((beforel:Nat):Int)))=(decide (s2.1<((beforel:Nat):Int)))) (Cb (cond (decide (s2.1<((beforel:Nat):Int))) (decide (s2.1<40)) false) (IdxS
 beforep beforel s2.1 1 fun b1 o1=>LdV b1 o1 (At w) fun v7=>OpI .u8 v7 fun n2=>Req (n1≠0) (Req ((2:Int)≠0) (zB Tryz.prog 17 #[.int .i64 s2.1,.int .i64
 (Int.tmod (IntKind.wrap .i64 n2) n1)] w fun v8 w=>OpA 16 v8 fun cs1=>DoV Tryz.prog (Instr.buildSlice 32 1 #[(0,.agg cs1)]) w fun v9 w=>OpS v9 fun p1 l1 c1=>DoQ
 Tryz.prog (Instr.build 41 #[(0,.int .i64 3),(1,.int .i64 (Int.tmod (IntKind.wrap .i64 n2) n1)),(3,.slice p1 l1 c1)]) (At w) fun v10=>OpA 7 v10 fun cs2=>zB
 Tryz.prog 16 #[.pointer (some ⟨b,o,none⟩),.int .i64 (Int.tmod s2.1 2),.int .i64 0,.agg cs2] w fun v11 w=>OpA 3 v11 fun cs3=>Alc 34 (zc Tryz.prog 34) w fun b2 w =>
 StA 3 b2 0 cs3 w fun w=>LdV b2 0 (At w) fun v12=>OpI .i64 v12 fun n3=>Cb (n3 !=1) (Ret [] (R (.bool false) w)) (zB Tryz.prog 17 #[.int .i64 s2.1,.int .i64
 (Int.tmod (IntKind.wrap .i64 n2) n1)] w fun v13 w=>OpA 16 v13 fun cs4=>IdxS p l (Int.tmod (IntKind.wrap .i64 n2) n1) 16 fun b3 o2=>StA 16 b3 o2 cs4 w fun w=>K2
 (IntKind.wrap .i64 (s2.1+1),()) w)))) (zB Tryz.prog 22 #[.pointer (some ⟨b,o,none⟩),.int .i64 s1.1] w fun v14 w=>OpI .i64 v14 fun n4=>Cb (n4 !=0) (Ret [] (R
 (.bool false) w)) (zB Tryz.prog 22 #[.pointer (some ⟨b,o,none⟩),.int .i64 s1.1] w fun v15 w=>OpI .i64 v15 fun n5=>Cb (n5 !=13) (Ret [] (R (.bool false) w)) (DoQ
 Tryz.prog (Instr.build 41 #[(0,.int .i64 1)]) (At w) fun v16=>OpA 7 v16 fun cs5=>zB Tryz.prog 16 #[.pointer (some ⟨b,o,none⟩),.int .i64 s1.1,.int .i64 0,.agg
 cs5] w fun v17 w=>OpA 3 v17 fun cs6=>Fld cs6 1 fun v18=>OpI .i64 v18 fun n6=>Cb (n6 !=2) (Ret [] (R (.bool false) w)) (LoopC (σ:=Int×Unit) (fun _ s3 w K3 =>
 Req ((decide (s3.1<((behindl:Nat):Int)))=(decide (s3.1<((behindl:Nat):Int)))) (Req ((decide (s3.1<((behindl:Nat):Int)))=(decide (s3.1<((behindl :
 Nat):Int)))) (Cb (cond (decide (s3.1<((behindl:Nat):Int))) (decide (s3.1<40)) false) (IdxS behindp behindl s3.1 1 fun b4 o3=>LdV b4 o3 (At w) fun v19=>OpI
 .u8 v19 fun n7=>Req (n1≠0) (zB Tryz.prog 17 #[.int .i64 (IntKind.wrap .i64 (s3.1+100)),.int .i64 (Int.tmod (IntKind.wrap .i64 n7) n1)] w fun v20 w=>OpA 16 v20
 fun cs7=>DoV Tryz.prog (Instr.buildSlice 32 1 #[(0,.agg cs7)]) w fun v21 w=>OpS v21 fun p2 l2 c2=>DoQ Tryz.prog (Instr.build 41 #[(0,.int .i64 3),(1,.int .i64
 (Int.tmod (IntKind.wrap .i64 n7) n1)),(3,.slice p2 l2 c2)]) (At w) fun v22=>OpA 7 v22 fun cs8=>zB Tryz.prog 16 #[.pointer (some ⟨b,o,none⟩),.int .i64 s1.2.1,
 .int .i64 0,.agg cs8] w fun v23 w=>OpA 3 v23 fun cs9=>Alc 34 (zc Tryz.prog 34) w fun b5 w=>StA 3 b5 0 cs9 w fun w=>LdV b5 0 (At w) fun v24=>OpI .i64 v24 fun n8
 => Cb (n8 !=1) (Ret [] (R (.bool false) w)) (zB Tryz.prog 17 #[.int .i64 (IntKind.wrap .i64 (s3.1+100)),.int .i64 (Int.tmod (IntKind.wrap .i64 n7) n1)] w fun v25 w
 => OpA 16 v25 fun cs10=>IdxS p l (Int.tmod (IntKind.wrap .i64 n7) n1) 16 fun b6 o4=>StA 16 b6 o4 cs10 w fun w=>K3 (IntKind.wrap .i64 (s3.1+1),()) w))) (DoQ
 Tryz.prog (Instr.build 41 #[(0,.int .i64 1)]) (At w) fun v26=>OpA 7 v26 fun cs11=>zB Tryz.prog 16 #[.pointer (some ⟨b,o,none⟩),.int .i64 s1.2.1,.int .i64 0,
 .agg cs11] w fun v27 w=>OpA 3 v27 fun cs12=>Fld cs12 0 fun v28=>OpI .i64 v28 fun n9=>Cb (n9 !=1) (Ret [] (R (.bool false) w)) (zB Tryz.prog 22 #[.pointer (some
 ⟨b,o,none⟩),.int .i64 s1.2.1] w fun v29 w=>OpI .i64 v29 fun n10=>Cb (n10 !=0) (Ret [] (R (.bool false) w)) (zB Tryz.prog 23 #[.pointer (some ⟨b,o,none⟩),.int
 .i64 0] w fun v30 w=>OpB v30 fun g1=>Cb g1 (Ret [] (R (.bool false) w)) (zB Tryz.prog 23 #[.pointer (some ⟨b,o,none⟩),.int .i64 1] w fun v31 w=>OpB v31 fun g2
 => Cb g2 (Ret [] (R (.bool false) w)) (zB Tryz.prog 19 #[.pointer (some ⟨b,o,none⟩)] w fun v32 w=>OpI .i64 v32 fun n11=>Cb (n11 !=13) (Ret [] (R (.bool false)
 w)) (zB Tryz.prog 21 #[.pointer (some ⟨b,o,none⟩),.bool (s1.1==0),.bool (s1.1==1)] w fun v33 w=>OpI .i64 v33 fun n12=>Cb (n12 !=13) (Ret [] (R (.bool
 false) w)) (zB Tryz.prog 23 #[.pointer (some ⟨b,o,none⟩),.int .i64 0] w fun v34 w=>OpB v34 fun g3=>Cb g3 (Ret [] (R (.bool false) w)) (zB Tryz.prog 23
 #[.pointer (some ⟨b,o,none⟩),.int .i64 1] w fun v35 w=>OpB v35 fun g4=>Cb g4 (Ret [] (R (.bool false) w)) (zB Tryz.prog 21 #[.pointer (some ⟨b,o,none⟩),.bool
 (s1.2.1==0),.bool (s1.2.1==1)] w fun v36 w=>OpI .i64 v36 fun n13=>Cb (n13 !=0) (Ret [] (R (.bool false) w)) (zB Tryz.prog 23 #[.pointer (some ⟨b,o,none⟩),
 .int .i64 s1.2.1] w fun v37 w=>OpB v37 fun g5=>Cb (!g5) (Ret [] (R (.bool false) w)) (zB Tryz.prog 23 #[.pointer (some ⟨b,o,none⟩),.int .i64 s1.1] w fun v38 w =>
 OpB v38 fun g6=>Cb g6 (Ret [] (R (.bool false) w)) (zB Tryz.prog 24 #[.pointer (some ⟨b,o,none⟩),.int .i64 s1.1] w fun v39 w=>OpI .i64 v39 fun n14=>Cb (n14 !=
 0) (Ret [] (R (.bool false) w)) (LoopC (σ:=Int×Unit) (fun _ s4 w K4=>Cb (decide (s4.1<n1)) (Req ((2:Int)≠0) (DoQ Tryz.prog (Instr.build 41 #[(0,.int .i64 2),
 (1,.int .i64 s4.1),(2,.int .i64 1)]) (At w) fun v40=>OpA 7 v40 fun cs13=>zB Tryz.prog 16 #[.pointer (some ⟨b,o,none⟩),.int .i64 (Int.tmod s4.1 2),.int .i64
 0,.agg cs13] w fun v41 w=>OpA 3 v41 fun cs14=>Alc 34 (zc Tryz.prog 34) w fun b7 w=>StA 3 b7 0 cs14 w fun w=>LdV b7 0 (At w) fun v42=>OpI .i64 v42 fun n15=>Cb
 (n15 !=1) (Drw w fun w=>Ret [] (R (.bool false) w)) (LdV b7 2 (At w) fun v43=>OpS v43 fun p3 l3 c3=>Cb (((l3:Nat):Int)!=1) (Drw w fun w=>Ret [] (R (.bool
 false) w)) (LdV b7 2 (At w) fun v44=>OpS v44 fun p4 l4 c4=>IdxS p4 l4 0 16 fun b8 o5=>LdA 16 b8 o5 (At w) fun cs15=>IdxS p l s4.1 16 fun b9 o6=>LdA 16 b9 o6 (At
 w) fun cs16=>EqB Tryz.prog .neq 37 (.tmp 235) (.tmp 239) (.agg cs15:Value) (.agg cs16:Value) (At w) fun g7=>Drw w fun w=>Cb g7 (Ret [] (R (.bool false) w)) (K4
 (IntKind.wrap .i64 (s4.1+1),()) w))))) (Ret [] (R (.bool true) w))) (0,()) w)))))))))))))))) (0,()) w))))))) (0,()) w)))))))
theorem C_ravelintop_WholeTakeover {x:Int} {y:Int} {z:Int} {room:Int} {side:Bool} {beforep:Option Addr} {beforel:Nat} {beforec:Nat} {behindp:Option Addr} {behindl:Nat} {behindc:Nat} {w:World} {R:Value→World→Prop} (h:F_ravelintop_WholeTakeover x y z room side beforep beforel beforec behindp behindl behindc w R):zB Tryz.prog 4 #[.int .u8 x,.int .u8 y,.int .u8 z,.int .u8 room,.bool side,.slice beforep beforel beforec,.slice behindp behindl behindc] w R:=by
 exact zE (args:=[.int .u8 x,.int .u8 y,.int .u8 z,.int .u8 room,.bool side,.slice beforep beforel beforec,.slice behindp behindl behindc]) (mkAnn [(10,[(21,(.int .i64))]),(20,[(24,(.int .i64))]),(34,[(27,(.int .i64))])] [] [(8,[(19,(.int .i64)),(20,(.int .i64))])] [] [100038]) zD Tryz.func4 rfl rfl (by kernel_rfl) h
end Go.Proofs
namespace Go.Proofs
open Go Go.Ev Go.RowKit
set_option maxRecDepth 100000
section calls
variable {w:World} {q:AB} {s:AS} {R:Value→World→Prop}
theorem ar_CrashDown (h:ArAt w q 0 s) (f:Bool) (hon:s.ps.pw.on=true) (hl:livesA s f=false) (hK:∀ w',ArAt w' q 0 s→Keep (ArF q w) w w'→R (.int .i64 13) w') :
  zB Tryz.prog 22 #[.pointer (some ⟨q.a,0,none⟩),.int .i64 (sideN f)] w R:=by
 apply C_array_Array_Crash
 unfold F_array_Array_Crash
 refine ar_lock h fun w1 h1 k1=>?_
 refine ar_on h1 (ma_On h1.pair.main (OpB_bool.2 ?_))
 rw [hon]
 refine (Cb_false (p:=_)).2 ⟨rfl,rfl,?_⟩
 have e:(cond (decide (sideN f<0)) true (decide (sideN f>1)))=false:=by cases f <;> rfl
 rw [e]
 refine (Cb_false (p:=_)).2 ⟨side_rng f,?_⟩
 refine LdV_has (v:=.bool (livesA s f)) h1.cells (by cases f <;> rfl) (OpB_bool.2 ?_)
 rw [hl]
 exact (Cb_true (q:=_)).2 (ar_unlock h1 fun w3 h3 k3=>hK w3 h3 ((k1.mono fun i e=>Or.inl e).trans' k3 fun i hi e=>Or.inl e))
theorem ar_DoNot (h:ArAt w q 0 s) (f:Bool) {init:Int} {c:Cmd} (hon:s.ps.pw.on=true) (hr:readyA s f=false) (hK:∀ w',ArAt w' q 0 s→Keep (ArF q w) w w'→R (.agg (repC 2 2 none 0 0)) w') :
  zB Tryz.prog 16 #[.pointer (some ⟨q.a,0,none⟩),.int .i64 (sideN f),.int .i64 init,.agg (cmdC c)] w R:=by
 apply C_array_Array_Do
 unfold F_array_Array_Do
 refine alc_fresh fun w1 hb1 k1 z1=>?_
 refine alc_fresh fun w2 hb2 k2 z2=>?_
 rw [zc_rep] at hb2
 have hb1':=k2.has hb1 (by simp)
 refine ar_lock (h.keep0 (k1.trans k2)) fun w3 h3 k3=>?_
 have tne:∀ {i:Nat} {cs:Array Value} {t:TypeId},Has w2 i (.cells cs t (0,0))→t≠143→¬ i=q.a:=fun hi ht=>typ_ne hi (h.keep0 (k1.trans k2)).cells ht
 have hS:DoSt w w3 q s w.heap.size w1.heap.size c:=⟨h3,k3.has hb1' (tne hb1' (by decide)),k3.has hb2 (tne hb2 (by decide)),(ArF.none (k1.trans k2)).trans' k3 fun i hi e=>Or.inl e,Nat.le_refl _,by omega⟩
 clear hb1 hb2 k1 k2 k3 hb1' h3 tne
 refine ar_on hS.ar (ma_On hS.ar.pair.main (OpB_bool.2 ?_))
 rw [hon]
 refine (Cb_false (p:=_)).2 ⟨rfl,rfl,?_⟩
 have e:(cond (decide (sideN f<0)) true (decide (sideN f>1)))=false:=by cases f <;> rfl
 rw [e]
 refine (Cb_false (p:=_)).2 ?_
 refine ar_ready hS.ar f fun w4 k4=>OpB_bool.2 ?_
 rw [hr]
 refine (Cb_true (q:=_)).2 ?_
 have hS:=hS.keep0 k4
 clear k4
 refine ar_check hS.ar 2 fun w5 k5=>OpA_agg.2 ⟨by split <;> rfl,?_⟩
 rw [if_pos hon]
 exact doEnd (hS.keep0 k5) rfl (one_repC _ _ _ _ _) fun w6 h6 k6 _=>hK w6 h6 k6
theorem ar_FlushDown (h:ArAt w q 0 s) (hon:s.ps.pw.on=true) (hfst:firstA s=none) (hK:∀ w',ArAt w' q 0 s→Keep (ArF q w) w w'→R (.int .i64 13) w') :
  zB Tryz.prog 19 #[.pointer (some ⟨q.a,0,none⟩)] w R:=by
 apply C_array_Array_Flush
 unfold F_array_Array_Flush
 refine ar_lock h fun w1 h1 k1=>?_
 refine ar_begin h1 fun w2 k2=>?_
 rw [if_neg (by rw [hon];decide),hfst]
 refine T2_mk.2 (zA.2 (zA.2 ((Cb_true (q:=_)).2 ?_)))
 exact ar_unlock (h1.keep0 k2) fun w3 h3 k3=>hK w3 h3 (((k1.mono fun i e=>Or.inl e).trans' k2 (by simp)).trans' k3 fun i hi e=>Or.inl e)
theorem arc_Ready0 (h:ArC w q 0 none s) (f:Bool) (hK:∀ w',Keep (fun _=>False) w w'→R (.bool false) w'):zB Tryz.prog 23 #[.pointer (some ⟨q.a,0,none⟩),.int .i64 (sideN f)] w R:=by
 apply C_array_Array_Ready
 unfold F_array_Array_Ready
 apply C_array_Array_ready
 unfold F_array_Array_ready
 refine ⟨fun st w'=>st.1=false∧Keep (fun _=>False) w w',?_,?_⟩
 ·intro d
  have kd:=Keep.drew (fun _=>False) w d
  have hd:=h.keep0 kd
  generalize w.dr d=w1 at *
  refine ⟨fun w'=>Has w' q.a (.cells (arCp q 0 none s) 143 (0,0)),hd.cells,rfl,rfl,?_⟩
  have e:(cond (decide (sideN f≥0)) (decide (sideN f≤1)) false)=true:=by cases f <;> rfl
  rw [e]
  refine (Cb_true (q:=_)).2 ?_
  refine LdV_of (v:=.pointer (some ⟨q.pb.m,0,none⟩)) (fun w' hw=>⟨_,_,_,hw,rfl⟩) (OpN_some.2 ?_)
  refine ma_On hd.stm.mems.main (OpB_bool.2 ⟨hd.cells,?_⟩)
  refine Cb_of (fun hon=>?_) (fun hon=>⟨hd.cells,rfl,kd⟩)
  exact LdV_of (v:=.pointer none) (fun w' hw=>⟨_,_,_,hw,rfl⟩) (OpP_none.2 ⟨hd.cells,rfl,kd⟩)
 rintro _ ⟨b,u⟩ w1 ⟨hb,k1⟩
 simp only at hb ⊢
 subst hb
 exact Ret_nil.2 (OpB_bool.2 (Ret_nil.2 (hK w1 k1)))
def rejA (s:AS) (f:Bool) (p:PS):AS:={ setLiveA (setEpA (setUpA { s with ps:=p } f true) f (epA s (!f))) f true with split:=false }
theorem ar_Rejoin (h:ArAt w q 0 s) (f:Bool) (hon:s.ps.pw.on=true) (hr:readyA s (!f)=true) (hl:livesA s f=false) (hu:upA s f=false) (hup:(cond f s.ps.ub s.ps.ua)=false) (hlen:s.ps.es.length≤999999) (hg:∀ e∈s.ps.es,0≤e.1∧e.1≤2147483647)
  (hj:∀ D,IsD s.ps.es D→(joinP q.pb.sz s.ps f D).1=0) (hK:∀ D w',IsD s.ps.es D→ArAt w' q 0 (rejA s f (joinP q.pb.sz s.ps f D).2)→Keep (ArF q w) w w'→R (.int .i64 0) w') :
  zB Tryz.prog 24 #[.pointer (some ⟨q.a,0,none⟩),.int .i64 (sideN f)] w R:=by
 apply C_array_Array_Rejoin
 unfold F_array_Array_Rejoin
 simp only [other_side]
 refine ar_lock h fun w1 h1 k1=>?_
 refine ar_on h1 (ma_On h1.pair.main (OpB_bool.2 ?_))
 rw [hon]
 refine (Cb_false (p:=_)).2 ⟨by trivial,by trivial,?_⟩
 have e:(cond (decide (sideN f<0)) true (decide (sideN f>1)))=false:=by cases f <;> rfl
 rw [e]
 refine (Cb_false (p:=_)).2 ?_
 refine ar_ready h1 (!f) fun w2 k2=>OpB_bool.2 ?_
 rw [hr]
 have h2:=h1.keep0 k2
 have k02:Keep (ArF q w) w w2:=ArF.trans (k1.mono fun i e=>Or.inl e) (ArF.none k2)
 clear h1 k1 k2
 refine (Cb_false (p:=_)).2 ⟨fun st w'=>st.1=false∧w'=w2,?_,?_⟩
 ·refine ⟨side_rng f,?_⟩
  refine LdV_has (v:=.bool (livesA s f)) h2.cells (by cases f <;> rfl) (OpB_bool.2 ?_)
  rw [hl]
  exact (Cb_false (p:=_)).2 ⟨rfl,rfl⟩
 rintro _ ⟨g0,u0⟩ w2 ⟨hg0,rfl⟩
 simp only at hg0 ⊢
 subst hg0
 refine (Cb_false (p:=_)).2 ⟨side_rng f,?_⟩
 refine LdV_has (v:=.bool (upA s f)) h2.cells (by cases f <;> rfl) (OpB_bool.2 ?_)
 rw [hu]
 refine ⟨fun _ w'=>∃ D,IsD s.ps.es D∧ArAt w' q 1 (setEpA (setUpA { s with ps:=(joinP q.pb.sz s.ps f D).2 } f true) f (epA s (!f)))∧Keep (ArF q w) w w',?_,?_⟩
 ·refine (Cb_true (q:=_)).2 ?_
  refine LdV_has (v:=.pointer (some ⟨q.pb.p,0,none⟩)) h2.cells rfl (OpN_some.2 ?_)
  refine pr_Join h2.pair f hlen hg (fun e=>by rw [hup] at e;cases e) fun _ D w3 hD p3 k3=>zA.2 ?_
  have hj0:=hj D hD
  have h3:=h2.ofPair p3 k3
  have k03:=ArF.trans k02 (k3.mono fun i e=>PFoot.arF e)
  clear h2 k02 k3 p3 hj
  generalize hJ:joinP q.pb.sz s.ps f D=J at *
  rw [hj0]
  refine (Cb_false (p:=_)).2 ⟨side_rng f,?_⟩
  refine StV_of h3.cells (by show _<21;cases f <;> decide) rfl ?_
  have hset:(arC q 1 { s with ps:=J.2 }).setIfInBounds (10+Int.toNat (sideN f)*1) (.bool true)=arC q 1 (setUpA { s with ps:=J.2 } f true):=by cases f <;> rfl
  rw [hset]
  have h4:=h3.put (lk':=1) (s':=setUpA { s with ps:=J.2 } f true) rfl rfl rfl rfl
  have k04:Keep (ArF q w) w (w3.upd q.a (.cells (arC q 1 (setUpA { s with ps:=J.2 } f true)) 143 (0,0))):=k03.upd (fun _=>Or.inl rfl) _
  clear h3 k03 hset
  generalize w3.upd q.a _=w4 at *
  refine ⟨fun _ w'=>ArAt w' q 1 (setEpA (setUpA { s with ps:=J.2 } f true) f (epA s (!f)))∧Keep (ArF q w) w w',?_,?_⟩
  ·intro d _
   have kd:=Keep.drew (fun _=>False) w4 d
   have h5:=h4.keep0 kd
   have k05:=ArF.trans k04 (ArF.none kd)
   clear h4 k04 kd
   generalize w4.dr d=w5 at *
   refine ⟨side_rng (!f),?_⟩
   refine LdV_has (v:=.int .u32 (epA s (!f))) h5.cells (by cases f <;> rfl) (zA.2 ⟨side_rng f,?_⟩)
   refine StV_of h5.cells (by show _<21;cases f <;> decide) rfl ?_
   have hset:(arC q 1 (setUpA { s with ps:=J.2 } f true)).setIfInBounds (13+Int.toNat (sideN f)*2+1) (.int .u32 (epA s (!f)))=arC q 1 (setEpA (setUpA { s with ps:=J.2 } f true) f (epA s (!f))):=by cases f <;> rfl
   rw [hset]
   exact ⟨h5.put (lk':=1) (s':=setEpA (setUpA { s with ps:=J.2 } f true) f (epA s (!f))) rfl rfl rfl rfl,k05.upd (fun _=>Or.inl rfl) _⟩
  rintro _ _ w6 ⟨h6,k06⟩
  exact ⟨D,hD,by rw [hJ];exact h6,k06⟩
 rintro _ _ w6 ⟨D,hD,h6,k06⟩
 have hK:=hK D
 generalize joinP q.pb.sz s.ps f D=J at *
 refine ⟨side_rng f,?_⟩
 refine StV_of h6.cells (by show _<21;cases f <;> decide) rfl ?_
 have hset:(arC q 1 (setEpA (setUpA { s with ps:=J.2 } f true) f (epA s (!f)))).setIfInBounds (13+Int.toNat (sideN f)*2) (.bool true)=arC q 1 (setLiveA (setEpA (setUpA { s with ps:=J.2 } f true) f (epA s (!f))) f true):=by cases f <;> rfl
 rw [hset]
 have h7:=h6.put (lk':=1) (s':=setLiveA (setEpA (setUpA { s with ps:=J.2 } f true) f (epA s (!f))) f true) rfl rfl rfl rfl
 have k07:Keep (ArF q w) w (w6.upd q.a (.cells (arC q 1 (setLiveA (setEpA (setUpA { s with ps:=J.2 } f true) f (epA s (!f))) f true)) 143 (0,0))):=k06.upd (fun _=>Or.inl rfl) _
 clear h6 k06 hset
 generalize w6.upd q.a _=w7 at *
 refine StV_of h7.cells (by show 17<21;decide) rfl ?_
 have hset:(arC q 1 (setLiveA (setEpA (setUpA { s with ps:=J.2 } f true) f (epA s (!f))) f true)).setIfInBounds 17 (.bool false)=arC q 1 (rejA s f J.2):=by cases f <;> rfl
 rw [hset]
 have h8:=h7.put (lk':=1) (s':=rejA s f J.2) rfl rfl rfl rfl
 have k08:Keep (ArF q w) w (w7.upd q.a (.cells (arC q 1 (rejA s f J.2)) 143 (0,0))):=k07.upd (fun _=>Or.inl rfl) _
 clear h7 k07 hset
 generalize w7.upd q.a _=w8 at *
 exact ar_unlock h8 fun w9 h9 k9=>hK w9 hD h9 (k08.trans' k9 fun i hi e=>Or.inl e)
end calls
structure Stood (s s':AS) (f:Bool) (e:Int):Prop where
 d:s'.d=s.d
 later:s'.later=s.later
 es:s'.ps.es=s.ps.es
 lives:∀ g,livesA s' g=livesA s g
 up:(cond f s'.ps.ub s'.ps.ua)=true∧(cond f s'.ps.ua s'.ps.ub)=false
 upa:upA s' (!f)=false
 other:xsA s'.ps (!f)=xsA s.ps (!f)
 key:∀ j:Nat,j<s.ds.length→deadS s.ss j=false→(s'.ds.getD j dsk0).key=e
 dead:∀ j,deadS s'.ss j=deadS s.ss j
theorem fence_all {s:SS} {e:Int} (hon:s.pw.on=true) {j:Nat} (hj:j<s.ds.length) (hd:deadS s j=false) (hk:(s.ds.getD j dsk0).key≤e):((fenceS s e).2.ds.getD j dsk0).key=e:=by
 unfold fenceS
 rw [if_neg (by rw [hon];decide)]
 have hd':(s.ds.getD j dsk0).dead=false:=by
  unfold deadS at hd
  rw [Int.toNat_natCast] at hd
  exact hd
 have e1:s.ds.getD j dsk0=s.ds[j]:=by rw [List.getD_eq_getElem?_getD,List.getElem?_eq_getElem hj];rfl
 rw [e1] at hd' hk
 show ((s.ds.map fun D=>(fenceD s.pw D e).2).getD j dsk0).key=e
 rw [List.getD_eq_getElem?_getD,List.getElem?_map,List.getElem?_eq_getElem hj]
 show (fenceD s.pw s.ds[j] e).2.key=e
 unfold fenceD
 rw [if_neg (by rw [hon];decide),if_neg (by rw [hd'];decide)]
 show max _ e=e
 omega
theorem keyS_of {s:SS} {e:Int} (h0:0≤e) (hk:∀ i:Nat,(s.ds.getD i dsk0).key≤e) {j:Nat} (hj:j<s.ds.length) (hd:deadS s j=false) (hkj:(s.ds.getD j dsk0).key=e):keyS s=e:=by
 have h1:=keyS_le (s:=s) h0 hk
 have e1:s.ds.getD j dsk0=s.ds[j]:=by rw [List.getD_eq_getElem?_getD,List.getElem?_eq_getElem hj];rfl
 have hd':(s.ds.getD j dsk0).dead=false:=by
  unfold deadS at hd
  rw [Int.toNat_natCast] at hd
  exact hd
 rw [e1] at hd' hkj
 have h2:=keyL_mem (k:=0) (List.getElem_mem hj) hd'
 rw [hkj] at h2
 have h2:e≤keyS s:=h2
 omega
theorem WaI.stand {q:AB} {s0 s:AS} {ep x y S A L:Int} {fin:Int→Sec} (h:WaI q s0 ep x y S A L fin s) (f:Bool) (hua:s0.ps.ua=true) (hub:s0.ps.ub=true) (hepo:epA s0 f=ep) (hlive:livesA s0 f=true) (h0:0≤ep) (he:ep<1000000) (hz:q.pb.sz=65536) (hS:S≤1000000) (hA:A≤60000) :
  ∃ e,ep<e∧e≤ep+2∧(aloneA q s f).1=0∧WaI q (aloneA q s f).2 e x y (S+1) (A+37) L fin (aloneA q s f).2∧Use (aloneA q s f).2 e f∧Stood s (aloneA q s f).2 f e:=by
 obtain ⟨now,hg,hnow⟩:=h.qv.good
 have h1:=h.steps
 have h2:=h.a
 have h3:=h.b
 have hs0:0≤s.ps.pw.steps:=hg.st0
 have hua':s.ps.ua=true:=by rw [h.like.ua,hua]
 have hub':s.ps.ub=true:=by rw [h.like.ub,hub]
 have hep:epA s f=ep:=by rw [h.like.ep,hepo]
 have hkl:=keyS_le (s:=s.ss) h0 hg.key
 have hkn:=keyS_nn s.ss
 have hmx:max (epA s f) (keyS s.ss)=ep:=by rw [hep];omega
 obtain ⟨e,hAf,hE1,hE2⟩:=after_small h0 he f
 have hlv:leaveP s.ps (!f)=(0,downS s.ps (!f) false):=by
  unfold leaveP
  rw [if_neg (by rw [hua',hub'];decide)]
 have hwe:IntKind.wrap .u64 e=e:=wrapU64 (by omega) (by omega)
 have hu:upS (downS s.ps (!f) false) false=[f]:=by
  unfold upS downS
  cases f <;> simp [hua',hub']
 have m0:=eachM_lit (sz:=q.pb.sz) (x:=⟨6,e,0,sec []⟩) [f] ⟨s.ps.pw,s.ps.xa,s.ps.xb⟩ hg.lit hs0 (by show s.ps.pw.steps+1<_;omega) (by show 37*1≤q.pb.sz-(s.ps.xa.length:Int);rw [hz];omega) (by show 37*1≤q.pb.sz-(s.ps.xb.length:Int);rw [hz];omega)
 have m1:=eachM_cont (sz:=q.pb.sz) (x:=⟨6,e,0,sec []⟩) [f] ⟨s.ps.pw,s.ps.xa,s.ps.xb⟩ (by simp) hg.lit hs0 (by show s.ps.pw.steps+1<_;omega) (by show 37*1≤q.pb.sz-(s.ps.xa.length:Int);rw [hz];omega) (by show 37*1≤q.pb.sz-(s.ps.xb.length:Int);rw [hz];omega)
 have hM:eachP q.pb.sz ⟨6,IntKind.wrap .u64 e,0,sec []⟩ false (downS s.ps (!f) false)=((eachM q.pb.sz ⟨6,e,0,sec []⟩ [f] ⟨s.ps.pw,s.ps.xa,s.ps.xb⟩).1,{ downS s.ps (!f) false with pw:=(eachM q.pb.sz ⟨6,e,0,sec []⟩ [f] ⟨s.ps.pw,s.ps.xa,s.ps.xb⟩).2.pw,xa:=(eachM q.pb.sz ⟨6,e,0,sec []⟩ [f] ⟨s.ps.pw,s.ps.xa,s.ps.xb⟩).2.xa,xb:=(eachM q.pb.sz ⟨6,e,0,sec []⟩ [f] ⟨s.ps.pw,s.ps.xa,s.ps.xb⟩).2.xb }):=by
  unfold eachP
  rw [eachS_eq,hu,hwe]
  rfl
 obtain ⟨n1,n2,n3,n4,n5⟩:=m0
 obtain ⟨c1,c2⟩:=m1
 generalize eachM q.pb.sz ⟨6,e,0,sec []⟩ [f] ⟨s.ps.pw,s.ps.xa,s.ps.xb⟩=M at *
 have n3:M.2.pw.steps=s.ps.pw.steps+1:=n3
 have n4:(M.2.xa.length:Int)≤(s.ps.xa.length:Int)+37*1:=n4
 have n5:(M.2.xb.length:Int)≤(s.ps.xb.length:Int)+37*1:=n5
 have hstamp:stampP q.pb.sz (downS s.ps (!f) false) e=(0,{ downS s.ps (!f) false with pw:=M.2.pw,xa:=M.2.xa,xb:=M.2.xb,epoch:=e }):=by
  unfold stampP
  rw [hM]
  simp only
  rw [if_neg (by simp [n1])]
 have hAl:aloneA q s f=(0,setEpA { setUpA { s with ps:=downS s.ps (!f) false } (!f) false with ps:={ downS s.ps (!f) false with pw:=M.2.pw,xa:=M.2.xa,xb:=M.2.xb,epoch:=e },ds:=(fenceS ⟨s.ds,M.2.pw⟩ e).2.ds } f e):=by
  unfold aloneA
  rw [hmx,hAf,hlv]
  simp only
  rw [if_neg (by decide)]
  have:(setUpA { s with ps:=downS s.ps (!f) false } (!f) false).ps=downS s.ps (!f) false:=rfl
  rw [this,hstamp]
  rw [if_neg (by simp)]
  rfl
 rw [hAl]
 have hpwE:(fenceS ⟨s.ds,M.2.pw⟩ e).2=⟨(fenceS ⟨s.ds,M.2.pw⟩ e).2.ds,M.2.pw⟩:=(fenceS_eta ⟨s.ds,M.2.pw⟩ e rfl).symm
 have hgM:GoodE q.g ⟨s.ds,M.2.pw⟩ now ep:=hg.pow (pw:=M.2.pw) n2 (by omega)
 have hgf:=hgM.fence (e:=e) h0 (by omega) (by omega)
 have hsS:deadS ⟨s.ds,M.2.pw⟩=deadS s.ss:=rfl
 refine ⟨e,hE1,hE2,rfl,⟨⟨⟨now,by rw [hpwE] at hgf;exact hgf,hnow⟩,fun j a hj ha hv=>?_,h.qv.es,h.qv.nd,h.qv.last,h.qv.fok⟩,⟨?_,?_⟩,Downs.refl _,h.room,by show M.2.pw.steps≤_;omega,by show (M.2.xa.length:Int)≤_;omega,by show (M.2.xb.length:Int)≤_;omega,h.last,like_refl _,fun _=>rfl,fun _=>rfl⟩,⟨?_,?_,?_,Or.inl ?_,by omega⟩,⟨rfl,rfl,rfl,?_,?_,?_,?_,fun j hj hd=>?_,fun j=>?_⟩⟩
 ·have hv:viewS ⟨(fenceS ⟨s.ds,M.2.pw⟩ e).2.ds,M.2.pw⟩ j a=none:=hv
  rw [← hpwE,fence_view] at hv
  exact h.qv.v2 j a hj ha hv
 ·show JnM (downS s.ps (!f) false).ua M.2.xa s.ps.es s.ps.last e
  intro hu'
  have hf:f=false:=by
   cases f
   ·rfl
   ·exact absurd (show false=true from hu') (by decide)
  subst hf
  obtain ⟨B,b1,b2,b3⟩:=h.jn.a hua'
  rw [c1,if_pos (by simp)]
  have hrc:RcOk ⟨6,e,0,sec []⟩:=rc_epoch ⟨by omega,by omega⟩
  refine ⟨B++[⟨6,e,0,sec []⟩],b1.app hrc,b2.epoch hrc,Or.inr ⟨_,List.mem_append.2 (Or.inr (List.mem_singleton.2 rfl)),rfl,rfl⟩,fun r hr hk=>?_⟩
  rcases List.mem_append.1 hr with hr | hr
  ·have:=b3.2 r hr hk;omega
  ·rw [List.mem_singleton.1 hr];exact Int.le_refl _
 ·show JnM (downS s.ps (!f) false).ub M.2.xb s.ps.es s.ps.last e
  intro hu'
  have hf:f=true:=by
   cases f
   ·exact absurd (show false=true from hu') (by decide)
   ·rfl
  subst hf
  obtain ⟨B,b1,b2,b3⟩:=h.jn.b hub'
  rw [c2,if_pos (by simp)]
  have hrc:RcOk ⟨6,e,0,sec []⟩:=rc_epoch ⟨by omega,by omega⟩
  refine ⟨B++[⟨6,e,0,sec []⟩],b1.app hrc,b2.epoch hrc,Or.inr ⟨_,List.mem_append.2 (Or.inr (List.mem_singleton.2 rfl)),rfl,rfl⟩,fun r hr hk=>?_⟩
  rcases List.mem_append.1 hr with hr | hr
  ·have:=b3.2 r hr hk;omega
  ·rw [List.mem_singleton.1 hr];exact Int.le_refl _
 ·cases f
  ·exact hua'
  ·exact hub'
 ·cases f <;> rfl
 ·have:livesA s f=true:=by rw [h.like.lives];exact hlive
  cases f <;> exact this
 ·cases f <;> rfl
 ·intro g
  cases f <;> cases g <;> rfl
 ·cases f
  ·exact ⟨hua',rfl⟩
  ·exact ⟨hub',rfl⟩
 ·cases f <;> rfl
 ·cases f
  ·show M.2.xb=s.ps.xb
   rw [c2];simp
  ·show M.2.xa=s.ps.xa
   rw [c1];simp
 ·show ((fenceS ⟨s.ds,M.2.pw⟩ e).2.ds.getD j dsk0).key=e
  exact fence_all n2.1 hj hd (Int.le_trans (hg.key j) (by omega))
 ·show deadS ⟨(fenceS ⟨s.ds,M.2.pw⟩ e).2.ds,M.2.pw⟩ j=_
  rw [← hpwE,fence_dead]
  rfl
theorem join_lit {sz:Int} {s:PS} {f:Bool} {D:List Rec} (hup:(cond f s.ub s.ua)=false) (hl:Lit0 s.pw) (hs0:0≤s.pw.steps) (hs1:s.pw.steps<100000000) (hsz:37*((epR s::D).length:Int)≤sz) :
  ∃ pw,Lit0 pw∧pw.steps=s.pw.steps+1∧joinP sz s f D=(0,downS { s with pw:=pw,xa:=cond f s.xa ((epR s::D).flatMap packB),xb:=cond f ((epR s::D).flatMap packB) s.xb } f true):=by
 obtain ⟨c1,c2,c3,c4⟩:=compS_lit (sz:=sz) (rs:=epR s::D) hsz [f] s (by simp) hl hs0 (by show s.pw.steps+1<_;omega)
 have hc:compS sz (epR s::D) [f] s=if (load1 sz (epR s::D) f s).1≠0 then load1 sz (epR s::D) f s else (0,(load1 sz (epR s::D) f s).2):=rfl
 have h0:(load1 sz (epR s::D) f s).1=0:=by
  rw [hc] at c1
  by_cases hx:(load1 sz (epR s::D) f s).1≠0
  ·rw [if_pos hx] at c1;exact c1
  ·omega
 rw [hc,if_neg (by omega)] at c2 c3 c4
 refine ⟨(load1 sz (epR s::D) f s).2.pw,c2,c3,?_⟩
 unfold joinP
 rw [if_neg (by rw [hup];decide),if_neg (by omega)]
 have c4:(load1 sz (epR s::D) f s).2=_:=c4
 generalize load1 sz (epR s::D) f s=z at *
 refine Prod.ext rfl ?_
 show downS z.2 f true=_
 rw [c4]
 cases f <;> rfl
theorem WaI.rejoin {q:AB} {s:AS} {ep x y S A L:Int} {fin:Int→Sec} (h:WaI q s ep x y S A L fin s) (f:Bool) (hu:Use s ep (!f)) (hup:(cond f s.ps.ub s.ps.ua)=false) (hepE:s.ps.epoch=ep) (he:ep<1000000) (hz:q.pb.sz=65536) (hroom:q.pb.room≤64) (hS:S≤1000000) (hA:A≤60000) (hL:L≤1000000) (hcap:capG20 q.g≤100000) {D:List Rec} (hD:IsD s.ps.es D) :
  (joinP q.pb.sz s.ps f D).1=0∧WaI q (rejA s f (joinP q.pb.sz s.ps f D).2) ep x y (S+1) (max A 2405) L fin (rejA s f (joinP q.pb.sz s.ps f D).2)∧(∀ g,Use (rejA s f (joinP q.pb.sz s.ps f D).2) ep g)∧(rejA s f (joinP q.pb.sz s.ps f D).2).d=s.d:=by
 obtain ⟨now,hg,hnow⟩:=h.qv.good
 have h1:=h.steps
 have h2:=h.a
 have h3:=h.b
 have h4:=h.last
 have h5:=h.room
 have h6:=h.qv.last
 have h0:=hu.ep0
 have hs0:0≤s.ps.pw.steps:=hg.st0
 have hDl:D.length=s.ps.es.length:=by have:=hD.1.length_eq;rwa [List.length_map] at this
 have hER:epR s.ps=⟨6,ep,0,sec []⟩:=by unfold epR;rw [hepE,wrapU64 (by omega) (by omega)]
 obtain ⟨pw,p1,p2,p3⟩:=join_lit (sz:=q.pb.sz) (D:=D) hup hg.lit hs0 (by omega) (by rw [hz];simp only [List.length_cons];omega)
 rw [hER] at p3
 have hlen:(((⟨6,ep,0,sec []⟩::D:List Rec).flatMap packB).length:Int)≤2405:=by rw [recs_len];simp only [List.length_cons];omega
 have hMs:MemOk (⟨6,ep,0,sec []⟩::D) s.ps.es s.ps.last:=by
  refine MemOk.short hD h.qv.nd (fun l en hl=>?_) (rc_epoch ⟨by omega,by omega⟩)
  obtain ⟨e1,e2,e3,e4⟩:=h.qv.es l en hl
  exact ⟨rc_dirty (by rw [e2];exact h.qv.fok _) ⟨e3,by show en.2≤_;omega⟩ ⟨e1.1,by show l≤_;omega⟩,e4⟩
 have hWs:WholeB ((⟨6,ep,0,sec []⟩::D:List Rec).flatMap packB) (⟨6,ep,0,sec []⟩::D):=⟨hMs.rc,rfl⟩
 have hepm:EpOk ep (⟨6,ep,0,sec []⟩::D:List Rec):=⟨Or.inr ⟨_,List.mem_cons_self ..,rfl,rfl⟩,fun r hr hk=>by
  rcases List.mem_cons.1 hr with rfl | hr
  ·exact Int.le_refl _
  ·obtain ⟨p,hp,rfl⟩:=List.mem_map.1 (hD.1.mem_iff.1 hr)
   exact absurd (show (1:Int)=6 from hk) (by decide)⟩
 rw [p3]
 generalize hB:(⟨6,ep,0,sec []⟩::D:List Rec).flatMap packB=B at *
 refine ⟨rfl,⟨⟨⟨now,hg.pow (pw:=pw) p1 (by omega),hnow⟩,h.qv.v2,h.qv.es,h.qv.nd,h.qv.last,h.qv.fok⟩,⟨?_,?_⟩,Downs.refl _,h.room,?_,?_,?_,h.last,like_refl _,fun _=>rfl,fun _=>rfl⟩,fun g=>⟨?_,?_,?_,Or.inr ⟨?_,rfl⟩,h0⟩,rfl⟩
 ·show JnM (cond f s.ps.ua true) (cond f s.ps.xa B) s.ps.es s.ps.last ep
  cases f
  ·exact fun _=>⟨_,hWs,hMs,hepm⟩
  ·exact h.jn.a
 ·show JnM (cond f true s.ps.ub) (cond f B s.ps.xb) s.ps.es s.ps.last ep
  cases f
  ·exact h.jn.b
  ·exact fun _=>⟨_,hWs,hMs,hepm⟩
 ·show pw.steps≤_;omega
 ·show ((cond f s.ps.xa B).length:Int)≤_
  cases f
  ·show (B.length:Int)≤_;omega
  ·show (s.ps.xa.length:Int)≤_;omega
 ·show ((cond f B s.ps.xb).length:Int)≤_
  cases f
  ·show (s.ps.xb.length:Int)≤_;omega
  ·show (B.length:Int)≤_;omega
 ·have:=hu.up
  cases f <;> cases g <;> first | rfl | exact this
 ·have:=hu.epo
  cases f <;> cases g <;> exact this
 ·have:=hu.live
  cases f <;> cases g <;> first | rfl | exact this
 ·have:=hu.live
  cases f <;> cases g <;> first | rfl | exact this
def ReadsT21 (b1 o:Nat) (p:Option Addr) (l:Nat) (n1:Int) (ox oy:Operand) (w:World) (R:Value→World→Prop):Prop :=
 LoopC (σ:=Int×Unit) (fun _ s4 w K4=>Cb (decide (s4.1<n1)) (Req ((2:Int)≠0) (DoQ Tryz.prog (Instr.build 41 #[(0,.int .i64 2),(1,.int .i64 s4.1),(2,.int .i64 1)]) (At w) fun v27=>OpA 7 v27 fun cs6 =>
  zB Tryz.prog 16 #[.pointer (some ⟨b1,o,none⟩),.int .i64 (Int.tmod s4.1 2),.int .i64 0,.agg cs6] w fun v28 w=>OpA 3 v28 fun cs7=>Alc 34 (zc Tryz.prog 34) w fun b4 w=>StA 3 b4 0 cs7 w fun w=>LdV b4 0 (At w) fun v29=>OpI .i64 v29 fun n17 =>
   Cb (n17 !=1) (Drw w fun w=>Ret [] (R (.bool false) w)) (LdV b4 2 (At w) fun v30=>OpS v30 fun p2 l2 c2=>Cb (((l2:Nat):Int)!=1) (Drw w fun w=>Ret [] (R (.bool false) w)) (LdV b4 2 (At w) fun v31=>OpS v31 fun p3 l3 c3=>IdxS p3 l3 0 16 fun b5 o3=>LdA 16 b5 o3 (At w) fun cs8 =>
    IdxS p l s4.1 16 fun b6 o4=>LdA 16 b6 o4 (At w) fun cs9=>EqB Tryz.prog .neq 37 ox oy (.agg cs8:Value) (.agg cs9:Value) (At w) fun g1=>Drw w fun w=>Cb g1 (Ret [] (R (.bool false) w)) (K4 (IntKind.wrap .i64 (s4.1+1),()) w))))) (Ret [] (R (.bool true) w))) (0,()) w
section calls
variable {w w0:World} {R:Value→World→Prop}
theorem side_of (i:Nat):∃ f,Int.tmod (i:Int) 2=sideN f:=by
 rw [Int.tmod_eq_emod_of_nonneg (by omega)]
 by_cases hev:i % 2=0
 ·exact ⟨false,by show ((i:Int)) % 2=0;omega⟩
 ·exact ⟨true,by show ((i:Int)) % 2=1;omega⟩
theorem reads21 {q:AB} {s0 s:AS} {ep x y S A L:Int} {fin:Int→Sec} (hI:WaI q s0 ep x y S A L fin s) (hu:∀ f,Use s0 ep f) (hd0:s0.d=dk0) (ha:ArAt w q 0 s) {B n:Nat} {p:Option Addr} (hn:(n:Int)=capG20 q.g) (hn2:n≤100000) (ho:OwnL secLay w B 37 p n n (nowA n fin)) {N0:Nat} (hfr:ArFrom q N0) (hN0:w0.heap.size≤N0) (hk0:Keep (fun _=>False) w0 w) {ox oy:Operand} (hK:∀ w',Keep (fun _=>False) w0 w'→R (.bool true) w') :
  ReadsT21 q.a 0 p n (n:Int) ox oy w R:=by
 unfold ReadsT21
 refine LoopC_of (σ:=Int×Unit) (fun st w'=>∃ j:Nat,st.1=(j:Int)∧j≤n∧ArAt w' q 0 s∧OwnL secLay w' B 37 p n n (nowA n fin)∧Keep (fun _=>False) w0 w') (fun st _=>((n:Int)-st.1).toNat) ⟨0,rfl,by omega,ha,ho,hk0⟩ ?_
 clear ha ho hk0
 rintro _ ⟨j1,u1⟩ w15 ⟨j,hj,hjn,ha,o,kk⟩
 simp only at hj ⊢
 subst hj
 refine Cb_of (fun hc=>?_) (fun hc=>Ret_nil.2 (hK w15 kk))
 have hc:j<n:=by simp at hc;omega
 obtain ⟨f,hf⟩:=side_of j
 refine ⟨by decide,?_⟩
 refine DoQ_of (v:=.agg (cmdC ⟨2,(j:Int),1,none,0,0,0,0,false⟩)) (fun _=>run_build _ _ _ _ (by kernel_rfl)) (OpA_agg.2 ⟨rfl,?_⟩)
 rw [hf]
 refine hI.read1 (hu f) hd0 ha (l:=(j:Int)) (by omega) (by omega) fun p' cc w16 ha4 k4 o4=>OpA_agg.2 ⟨rfl,?_⟩
 refine copy_of (by rw [zc_rep];rfl) rfl (one_repC _ _ _ _ _) fun w17 hb17 k17 z17=>?_
 refine LdV_has (v:=.int .i64 1) hb17 rfl (zA.2 ((Cb_false (p:=_)).2 ?_))
 refine LdV_has (v:=.slice p' 1 cc) hb17 rfl (zC.2 ((Cb_false (p:=_)).2 ?_))
 refine LdV_has (v:=.slice p' 1 cc) hb17 rfl (zC.2 ?_)
 refine (o4.keep k17 (by simp)).ldA (x:=fin (j:Int)) rfl (by decide) rfl ?_
 rw [evS]
 have o5:=(own_arF ha k4 o).keep k17 (by simp)
 refine o5.ldA (x:=fin (j:Int)) rfl (by omega) (by rw [Int.toNat_natCast];exact nowA_at hc fin) ?_
 rw [evS]
 refine EqB_sec_ne (hI.qv.fok _) (hI.qv.fok _) fun r hr=>?_
 have hrf:r=false:=by cases r <;> simp_all
 subst hrf
 intro dd2
 refine (Cb_false (p:=_)).2 ?_
 have k18:=k17.dr dd2
 rw [wrapI (by omega) (by omega)]
 refine ⟨_,?_,⟨j+1,by show (j:Int)+1=((j+1:Nat):Int);omega,hc,ha4.keep0 k18,(own_arF ha k4 o).keep k18 (by simp),(kk.trans' k4 fun i hi e=>by have:=ArF.low hfr e;omega).trans k18⟩,rfl⟩
 show ((n:Int)-((j:Int)+1)).toNat<((n:Int)-(j:Int)).toNat
 omega
theorem own_put {q:AB} {lk:Int} {s:AS} (ha:ArAt w q lk s) {B n:Nat} {fin:Int→Sec} (o:OwnL secLay w B 37 (some ⟨B,0,none⟩) n n (nowA n fin)) {l:Nat} (hl:l<n) {d:Sec} {K:World→Prop}
  (hK:∀ w',ArAt w' q lk s→OwnL secLay w' B 37 (some ⟨B,0,none⟩) n n (nowA n (upd fin (l:Int) d))→Keep (fun k=>k=B) w w'→K w'):IdxS (some ⟨B,0,none⟩) n (l:Int) 16 fun b o=>StA 16 b o (secV d) w K:=by
 refine o.stA (n:=16) rfl (by omega) (by omega) d (evS d).symm fun w11 o11 k11 z11=>?_
 rw [Int.toNat_natCast,nowA_set] at o11
 obtain ⟨_,cur,hh⟩:=own_has o B 0 rfl
 have k11':Keep (fun k=>k=B) w w11:=k11.mono fun i e=>by cases e;rfl
 exact hK w11 (ha.keepT hh (by decide) (by decide) (by decide) (by decide) (by decide) (by decide) (by decide) (by decide) (by decide) (by decide) (by decide) k11') o11 k11'
end calls
structure CanStand (q:AB) (s:AS) (f:Bool) (z:AS):Prop where
 ready:readyA s f=true
 d:z.d=s.d
 al:∀ (w1:World) (R1:Value→World→Prop),ArAt w1 q 1 s→(∀ w2,ArAt w2 q 1 z→Keep (ArF q w1) w1 w2→R1 (.int .i64 0) w2)→zB Tryz.prog 79 #[.pointer (some ⟨q.a,0,none⟩),.int .i64 (sideN f)] w1 R1
theorem CanStand.self {q:AB} {s0 s:AS} {ep x y S A L:Int} {fin:Int→Sec} {f:Bool} (h:WaI q s0 ep x y S A L fin s) (u:Use s0 ep f):CanStand q s f s:=⟨h.ready u,rfl,alone_none f (h.alone u)⟩
def WrT21 (b1 o:Nat) (p:Option Addr) (l:Nat) (sd i k:Int) (w:World) (R:Value→World→Prop) (K:World→Prop):Prop :=
 zB Tryz.prog 17 #[.int .i64 i,.int .i64 k] w fun v8 w=>OpA 16 v8 fun cs1=>DoV Tryz.prog (Instr.buildSlice 32 1 #[(0,.agg cs1)]) w fun v9 w=>OpS v9 fun p1 l1 c1=>DoQ Tryz.prog (Instr.build 41 #[(0,.int .i64 3),(1,.int .i64 k),(3,.slice p1 l1 c1)]) (At w) fun v10=>OpA 7 v10 fun cs2 =>
  zB Tryz.prog 16 #[.pointer (some ⟨b1,o,none⟩),.int .i64 sd,.int .i64 0,.agg cs2] w fun v11 w=>OpA 3 v11 fun cs3=>Alc 34 (zc Tryz.prog 34) w fun b2 w=>StA 3 b2 0 cs3 w fun w=>LdV b2 0 (At w) fun v12=>OpI .i64 v12 fun n3=>Cb (n3 !=1) (Ret [] (R (.bool false) w))
   (zB Tryz.prog 17 #[.int .i64 i,.int .i64 k] w fun v13 w=>OpA 16 v13 fun cs4=>IdxS p l k 16 fun b3 o2=>StA 16 b3 o2 cs4 w fun w=>K w)
theorem WaI.live {q:AB} {s0 s:AS} {ep x y S A L:Int} {fin:Int→Sec} (h:WaI q s0 ep x y S A L fin s) (f v:Bool):WaI q (setLiveA s f v) ep x y S A L fin (setLiveA s f v) :=
 ⟨⟨h.qv.good,h.qv.v2,h.qv.es,h.qv.nd,h.qv.last,h.qv.fok⟩,⟨h.jn.a,h.jn.b⟩,Downs.refl _,h.room,h.steps,h.a,h.b,h.last,like_refl _,fun _=>rfl,fun _=>rfl⟩
section calls
variable {w w0:World} {R:Value→World→Prop} {q:AB} {s0 s z:AS} {ep x y S A L:Int} {fin:Int→Sec} {f:Bool}
theorem WaI.writeA {z:AS} (hR:WaI q s0 ep x y S A L fin z) (u:Use s0 ep f) (hd0:s0.d=dk0) (hst:CanStand q s f z) (h:ArAt w q 0 s) (hz:q.pb.sz=65536) (hroom:1≤q.pb.room∧q.pb.room≤64) (hA:A≤50000) (hS:S≤900000) (hL:L≤900000) (hcap:capG20 q.g≤100000) {l:Int} {d:Sec} (hd:SecOk d) (h0:0≤l) (h1:l<capG20 q.g) {dp:Option Addr} {dc:Nat}
  (hx:∀ w',Keep (ArF q w) w w'→SlL secLay w' dp 1 [d]) (hK:∀ s' w',WaI q s0 ep x y (S+17) (A+518) (L+2) (upd fin l d) s'→ArAt w' q 0 s'→Keep (ArF q w) w w'→R (.agg (repC 1 0 none 0 0)) w') :
  zB Tryz.prog 16 #[.pointer (some ⟨q.a,0,none⟩),.int .i64 (sideN f),.int .i64 0,.agg (cmdC ⟨3,l,0,dp,1,dc,0,0,false⟩)] w R:=by
 refine ar_DoWrite (c:=⟨3,l,0,dp,1,dc,0,0,false⟩) (xs:=[d]) h f rfl hst.ready hst.d hst.al (gate_any (by rw [← hst.d,hR.like.d];exact hd0) (Or.inr rfl) (by show (1:Int)≤1;decide) (by show (1:Int)≤8;decide) h0 (by show l+(1:Int)≤capG20 q.g;omega) (by decide)) rfl hx
  (fun n s'=>(n=0∧s'=z)∨(n=1∧WaI q s0 ep x y (S+17) (A+518) (L+2) (upd fin l d) s')) (fun _=>False) (Or.inl ⟨rfl,rfl⟩) ?_ ?_ (fun _ _ h=>h.elim)
 ·intro n v s1 w1 R1 hxk hiv h1' hh
  have hn:n=0∧s1=z:=by
   rcases hiv with h | ⟨rfl,_⟩
   ·exact h
   ·cases hxk
  obtain ⟨rfl,rfl⟩:=hn
  cases hxk
  have e0:(Cmd.mk 3 l 0 dp 1 dc 0 0 false).lba+((0:Nat):Int)=l:=Int.add_zero _
  rw [e0]
  refine ar_putI h1' f (fun s'=>s'=s1∨(WaI q s0 ep x y (S+15) (A+444) (L+1) fin s'∧(s'.ps.es.length:Int)<q.pb.room)) (fun _=>False) (Or.inl rfl) ?_ ?_ ?_ (fun e s2 w' _ hb=>hb.elim)
  ·rintro s2 w2 R2 hiv2 h2 hg hr2 hh2
   rcases hiv2 with rfl | ⟨_,hb⟩
   ·refine hR.outC u hz hroom.2 (by omega) (by omega) (by omega) hcap h2 (fun e=>by rw [e] at hr2;have hr2:q.pb.room≤0:=hr2;omega) fun p w3 hp h3 k3 hR3 he3=>?_
    have hlt:=del_lt hp
    have:=hR.room
    refine hh2 0 _ w3 h3 k3 (Or.inl ⟨rfl,Or.inr ⟨hR3,by rw [he3];omega⟩,by rw [he3];exact hlt⟩)
   ·omega
  ·rintro s2 hiv2 g _
   rcases hiv2 with rfl | ⟨hR2,_⟩
   ·exact hR.roomM hz (by omega) g
   ·exact hR2.roomM hz (by omega) g
  ·rintro s2 w2 hiv2 hor h2 k2
   have hR2:WaI q s0 ep x y (S+15) (A+444) (L+1) fin s2:=by
    rcases hiv2 with rfl | ⟨hR2,_⟩
    ·exact hR.mono (by omega) (by omega) (by omega)
    ·exact hR2
   obtain ⟨p1,p2⟩:=hR2.put u hz (by omega) (by omega) (by omega) hcap hd h0 h1 hor
   rw [p1]
   exact hh 0 _ w2 h2 k2 (Or.inl ⟨rfl,Or.inr ⟨rfl,p2.mono (by omega) (by omega) (by omega)⟩⟩)
 ·rintro s' w' (⟨h,_⟩ | ⟨_,hR'⟩) h' k'
  ·cases h
  ·exact hK s' w' hR' h' k'
theorem wr21 (hR:WaI q s0 ep x y S A L fin z) (u:Use s0 ep f) (hd0:s0.d=dk0) (hst:CanStand q s f z) (ha:ArAt w q 0 s) (hz:q.pb.sz=65536) (hroom:1≤q.pb.room∧q.pb.room≤64) (hA:A≤50000) (hS:S≤900000) (hL:L≤900000) (hcap:capG20 q.g≤100000) {B n:Nat} (hn:(n:Int)=capG20 q.g) (o:OwnL secLay w B 37 (some ⟨B,0,none⟩) n n (nowA n fin))
  {N0:Nat} (hf:ArFrom q N0) (hN0:w0.heap.size≤N0) (hBlow:w0.heap.size≤B) (kk:Keep (fun _=>False) w0 w) {i:Int} {l:Nat} (hl:l<n) {K:World→Prop}
  (hK:∀ s' w',WaI q s0 ep x y (S+17) (A+518) (L+2) (upd fin (l:Int) (oneS i (l:Int))) s'→ArAt w' q 0 s'→OwnL secLay w' B 37 (some ⟨B,0,none⟩) n n (nowA n (upd fin (l:Int) (oneS i (l:Int))))→Keep (fun _=>False) w0 w'→K w') :
  WrT21 q.a 0 (some ⟨B,0,none⟩) n (sideN f) i (l:Int) w R K:=by
 unfold WrT21
 refine w_one fun w9 k9=>OpA_agg.2 ⟨rfl,?_⟩
 generalize hdat:oneS i (l:Int)=dat at *
 have hdok:SecOk dat:=by rw [← hdat];exact oneS_ok _ _
 refine ⟨_,_,bsl_s1 _ w9,zC.2 ?_⟩
 have k10:Keep (fun _=>False) w9 (w9.alloc (.cells (secV dat) 37)):=Keep.new _ _ _
 have hb10:Has (w9.alloc (.cells (secV dat) 37)) w9.heap.size (.cells (secV dat) 37 (0,0)):=Has.new _ _
 have o10:OwnL secLay _ w9.heap.size 37 (some ⟨w9.heap.size,0,none⟩) 1 1 [dat]:=OwnL.mk (xs:=[dat]) (Nat.le_refl _) hb10 (by simp [maxLen]) (by simp [Lay.rows,secLay])
 have ka10:=k9.trans k10
 have ha10:=ha.keep0 ka10
 have oN10:=o.keep ka10 (by simp)
 have kk10:=kk.trans ka10
 clear ha o kk k9 k10 ka10 hb10
 generalize w9.alloc (.cells (secV dat) 37)=w10 at *
 refine DoQ_of (v:=.agg (cmdC ⟨3,(l:Int),0,some ⟨w9.heap.size,0,none⟩,1,1,0,0,false⟩)) (fun _=>run_build _ _ _ _ (by kernel_rfl)) (OpA_agg.2 ⟨rfl,?_⟩)
 refine hR.writeA u hd0 hst ha10 hz hroom (by omega) (by omega) (by omega) hcap hdok (l:=(l:Int)) (by omega) (by omega) (fun w' k'=>((SlT.of o10).keepB k' fun i cur hh=>ArF.not ha10 hh (by decide) (by decide) (by decide) (by decide) (by decide) (by decide) (by decide)).sl) fun s' w11 hI' ha11 k11=>OpA_agg.2 ⟨rfl,?_⟩
 have oN11:=own_arF ha10 k11 oN10
 have kk11:Keep (fun _=>False) w0 w11:=kk10.trans' k11 fun i hi e=>by have:=ArF.low hf e;omega
 clear ha10 oN10 kk10 k11 o10
 refine copy_of (by rw [zc_rep];rfl) rfl (one_repC _ _ _ _ _) fun w17 hb17 k17 z17=>?_
 refine LdV_has (v:=.int .i64 1) hb17 rfl (zA.2 ((Cb_false (p:=_)).2 ?_))
 refine w_one fun w12 k12=>OpA_agg.2 ⟨rfl,?_⟩
 rw [hdat]
 have k1112:=k17.trans k12
 refine own_put (ha11.keep0 k1112) (oN11.keep k1112 (by simp)) hl fun w13 ha13 o13 k13=>?_
 exact hK s' w13 hI' ha13 o13 ((kk11.trans k1112).trans' k13 fun i hi e=>by omega)
end calls
theorem setLive_lives (s:AS) (f:Bool):livesA (setLiveA s f false) f=false∧livesA (setLiveA s f false) (!f)=livesA s (!f):=by cases f <;> exact ⟨rfl,rfl⟩
theorem ready_dead {s:AS} {f:Bool} (h:livesA s f=false):readyA s f=false:=by
 unfold readyA
 rw [h]
 cases s.ps.pw.on <;> rfl
theorem firstA_none {s:AS} (h0:readyA s false=false) (h1:readyA s true=false):firstA s=none:=by
 unfold firstA
 rw [h0,h1]
 rfl
theorem sideEq (f:Bool):(sideN f==0)=(!f)∧(sideN f==1)=f:=by cases f <;> exact ⟨rfl,rfl⟩
structure TkI (q:AB) (s0 z:AS) (f:Bool) (e x y S A L:Int) (fin:Int→Sec) (B:List Rec):Prop where
 wa:WaI q s0 e x y S A L fin z
 use:Use s0 e (!f)
 d:s0.d=dk0
 later:s0.later=0
 dead:livesA s0 f=false
 up:upA s0 f=false∧(cond f s0.ps.ub s0.ps.ua)=false
 mem:WholeB (xsA s0.ps f) B
 old:∀ r∈B,r.kind=6→r.ver<e
 pos:0<e∧e≤2
 key:keyS s0.ss=e
theorem TkI.with {q:AB} {s0 z z':AS} {f:Bool} {e x y S A L S' A' L':Int} {fin fin':Int→Sec} {B:List Rec} (h:TkI q s0 z f e x y S A L fin B) (w:WaI q s0 e x y S' A' L' fin' z'):TkI q s0 z' f e x y S' A' L' fin' B :=
 ⟨w,h.use,h.d,h.later,h.dead,h.up,h.mem,h.old,h.pos,h.key⟩
theorem keyL_same:∀ (l m:List Dsk) (k:Int),l.length=m.length→(∀ i:Nat,(l.getD i dsk0).key=(m.getD i dsk0).key∧(l.getD i dsk0).dead=(m.getD i dsk0).dead)→keyL k l=keyL k m
 | [],[],_,_,_=>rfl
 | [],_::_,_,h,_=>by cases h
 | _::_,[],_,h,_=>by cases h
 | D::l,E::m,k,h,hi=>by
  obtain ⟨h1,h2⟩:=hi 0
  have h1:D.key=E.key:=h1
  have h2:D.dead=E.dead:=h2
  show keyL (if D.dead=true then k else max k D.key) l=keyL (if E.dead=true then k else max k E.key) m
  rw [h1,h2]
  exact keyL_same l m _ (by simpa using h) fun i=>hi (i+1)
theorem TkI.keyz {q:AB} {s0 z:AS} {f:Bool} {e x y S A L:Int} {fin:Int→Sec} {B:List Rec} (h:TkI q s0 z f e x y S A L fin B) (hlen:z.ds.length=s0.ds.length):keyS z.ss=e:=by
 rw [← h.key]
 refine keyL_same _ _ _ hlen fun i=>⟨h.wa.keq i,?_⟩
 have:=h.wa.dead (i:Int)
 unfold deadS at this
 rw [Int.toNat_natCast] at this
 exact this
section calls
variable {w w0:World} {R:Value→World→Prop}
theorem stand21 {q:AB} {g:Geo} {s:AS} {x y S A L:Int} {fin:Int→Sec} {f:Bool} (hI:WaI q (arS0 g) 0 x y S A L fin s) (hqg:q.g=g) (hg:GeoOk g) (hz:q.pb.sz=65536) (hS:S≤1000000) (hA:A≤50000) :
  ∃ e B,TkI q (aloneA q (setLiveA s f false) (!f)).2 (aloneA q (setLiveA s f false) (!f)).2 f e x y (S+1) (A+37) L fin B∧CanStand q (setLiveA s f false) (!f) (aloneA q (setLiveA s f false) (!f)).2∧(aloneA q (setLiveA s f false) (!f)).2.ds.length=s.ds.length:=by
 have h1:=hI.live f false
 obtain ⟨now,hg1,_⟩:=hI.qv.good
 have hua:s.ps.ua=true:=hI.like.ua
 have hub:s.ps.ub=true:=hI.like.ub
 have hep:∀ g',epA s g'=0:=fun g'=>by rw [hI.like.ep];cases g' <;> rfl
 have hliv:∀ g',livesA s g'=true:=fun g'=>by rw [hI.like.lives];cases g' <;> rfl
 have hups:∀ g',upA s g'=true:=fun g'=>by rw [hI.like.upA];cases g' <;> rfl
 have hl2:livesA (setLiveA s f false) (!f)=true:=by rw [(setLive_lives s f).2];exact hliv _
 have hep2:epA (setLiveA s f false) (!f)=0:=by rw [← hep (!f)];cases f <;> rfl
 obtain ⟨e,he1,he2,ha0,hW,hU,hSt⟩:=h1.stand (!f) hua hub hep2 hl2 (Int.le_refl _) (by decide) hz hS (by omega)
 have hlen:(aloneA q (setLiveA s f false) (!f)).2.ds.length=s.ds.length:=by
  obtain ⟨now2,hg2,_⟩:=hW.qv.good
  have a1:=hg2.ss.num
  have a2:=hg1.ss.num
  have a1:(((aloneA q (setLiveA s f false) (!f)).2.ds.length:Nat):Int)=_:=a1
  have a2:((s.ds.length:Nat):Int)=_:=a2
  omega
 have hnum:((s.ds.length:Nat):Int)=q.g.d:=hg1.ss.num
 have hgd:=hg.d
 rw [hqg] at hnum
 have hal:∀ j:Int,deadS s.ss j=false:=fun j=>by rw [hI.dead];exact newS_dead g pw0 _
 have hm:∃ B,WholeB (xsA s.ps f) B∧∀ r∈B,r.kind=6→r.ver≤0:=by
  cases f
  ·obtain ⟨B,b1,_,b3⟩:=hI.jn.a hua
   exact ⟨B,b1,b3.2⟩
  ·obtain ⟨B,b1,_,b3⟩:=hI.jn.b hub
   exact ⟨B,b1,b3.2⟩
 obtain ⟨B,b1,b2⟩:=hm
 have hxs:xsA (aloneA q (setLiveA s f false) (!f)).2.ps f=xsA s.ps f:=by
  have:=hSt.other
  rw [Bool.not_not] at this
  rw [this]
  rfl
 obtain ⟨now2,hg2,_⟩:=hW.qv.good
 refine ⟨e,B,⟨hW,hU,?_,?_,?_,⟨?_,?_⟩,by rw [hxs];exact b1,fun r hr hk=>by have:=b2 r hr hk;omega,⟨by omega,by omega⟩,?_⟩,⟨?_,hSt.d,fun w1 R1 hA1 hh=>?_⟩,hlen⟩
 ·rw [hSt.d];exact hI.like.d
 ·rw [hSt.later]
  show s.later=0
  rw [hI.like.rest];rfl
 ·rw [hSt.lives];exact (setLive_lives s f).1
 ·have:=hSt.upa
  rw [Bool.not_not] at this
  exact this
 ·have:=hSt.up.2
  cases f <;> exact this
 ·refine keyS_of (by omega) hg2.key (j:=0) (by show 0<(aloneA q (setLiveA s f false) (!f)).2.ds.length;omega) ?_ (hSt.key 0 (by show 0<s.ds.length;omega) (hal 0))
  have:=hSt.dead 0
  exact this.trans (hal 0)
 ·exact h1.qv.ready hl2 (by omega) (Int.le_refl _)
 ·have hr1:∀ g',upA (setLiveA s f false) g'=true→64≤(q.pb.sz-((xsA (setLiveA s f false).ps g').length:Int)) / 37:=fun g' _=>h1.roomM hz (by omega) g'
  refine ar_alone1 hA1 hg1.ss.ok (!f) ?_ ?_ (by omega) ⟨keyS_nn _,?_⟩ hr1 fun w2 h2 k2=>?_
  ·rw [Bool.not_not]
   have:=hups f
   cases f <;> exact this
  ·rw [Bool.not_not,(setLive_lives s f).1]
   rintro ⟨h,_⟩
   cases h
  ·have:=keyS_le (s:=s.ss) (Int.le_refl 0) hg1.key
   have:keyS (setLiveA s f false).ss≤0:=this
   omega
  ·rw [ha0]
   exact hh w2 h2 k2
structure DownA (q:AB) (z:AS) (f:Bool) (e x y S A L:Int) (fin:Int→Sec):Prop where
 qv:Qv q z fin e x y
 ma:∃ X,MemS f z.ps.xa z.ps.es z.ps.last e X
 mb:∃ X,MemS (!f) z.ps.xb z.ps.es z.ps.last e X
 later:z.later=0
 key:keyS z.ss=e
 room:(z.ps.es.length:Int)≤q.pb.room
 steps:z.ps.pw.steps≤S
 a:(z.ps.xa.length:Int)≤A
 b:(z.ps.xb.length:Int)≤A
 last:z.ps.last≤L
 d:z.d=dk0
theorem valid_old {e:Int} {B:List Rec} (he:0<e) (h:∀ r∈B,r.kind=6→r.ver<e):validK e B=false:=by
 unfold validK
 rw [decide_eq_false (by omega),Bool.false_or,List.any_eq_false]
 intro r hr
 by_cases hk:r.kind=6
 ·have:=h r hr hk
  rw [decide_eq_true hk,decide_eq_false (by omega)]
  decide
 ·rw [decide_eq_false hk,Bool.false_and]
  decide
theorem TkI.startFail {q:AB} {s0 z z1:AS} {f:Bool} {e x y S A L:Int} {fin:Int→Sec} {B:List Rec} (h:TkI q s0 z f e x y S A L fin B) (hz1:z1=setLiveA z (!f) false) (ha:ArAt w q 0 z1) (hlen:z.ds.length=s0.ds.length)
  (hK:∀ z2 w',ArC w' q 0 none z2→DownA q z2 f e x y S A L fin→Keep (ArS q w) w w'→R (.int .i64 13) w'):zB Tryz.prog 21 #[.pointer (some ⟨q.a,0,none⟩),.bool (!f),.bool f] w R:=by
 subst hz1
 obtain ⟨now,hg,hnow⟩:=h.wa.qv.good
 have hkey:=h.keyz hlen
 have he:=h.pos
 have hs0:0≤z.ps.pw.steps:=hg.st0
 have hlat:z.later=0:=by rw [h.wa.like.rest];exact h.later
 have hd:z.d=dk0:=by rw [h.wa.like.d];exact h.d
 have hxf:xsA z.ps f=xsA s0.ps f:=by
  have h1:=h.up.2
  cases f
  ·exact h.wa.dn.a h1
  ·exact h.wa.dn.b h1
 have hB:WholeB (xsA z.ps f) B:=by rw [hxf];exact h.mem
 have hupt:(cond (!f) z.ps.ub z.ps.ua)=true:=by
  have:=h.use.up
  rw [h.wa.like.ua,h.wa.like.ub]
  exact this
 have hT:∃ T,WholeB (xsA z.ps (!f)) T∧MemOk T z.ps.es z.ps.last∧EpOk e T:=by
  cases f
  ·exact h.wa.jn.b hupt
  ·exact h.wa.jn.a hupt
 obtain ⟨T,t1,t2,t3⟩:=hT
 generalize hLsE:(fun g:Bool=>if g=f then B else T)=Ls
 have lf:Ls f=B:=by rw [← hLsE];exact if_pos rfl
 have lt:Ls (!f)=T:=by rw [← hLsE];exact if_neg (by cases f <;> decide)
 have hsrc:srcsK e (!f) f Ls=[]:=by
  have hv:=valid_old he.1 h.old
  unfold srcsK
  cases f
  ·have lf:Ls false=B:=lf
   show List.filter _ [false,true]=[]
   simp [lf,hv]
  ·have lf:Ls true=B:=lf
   show List.filter _ [false,true]=[]
   simp [lf,hv]
 have hwa:WholeB z.ps.xa (Ls false):=by
  cases f
  ·rw [lf];exact hB
  ·have lt:Ls false=T:=lt
   rw [lt];exact t1
 have hwb:WholeB z.ps.xb (Ls true):=by
  cases f
  ·have lt:Ls true=T:=lt
   rw [lt];exact t1
  ·rw [lf];exact hB
 have exa:(trA (setLiveA z (!f) false) (!f) f Ls).ps.xa=z.ps.xa:=by
  show cond (!f) ((Ls false).flatMap packB) z.ps.xa=_
  cases f
  ·exact hwa.2.symm
  ·rfl
 have exb:(trA (setLiveA z (!f) false) (!f) f Ls).ps.xb=z.ps.xb:=by
  show cond f ((Ls true).flatMap packB) z.ps.xb=_
  cases f
  ·rfl
  ·exact hwb.2.symm
 have hks:keyS (setLiveA z (!f) false).ss=e:=hkey
 refine ar_Start (Ls:=Ls) ha.toC (by cases f <;> simp) hlat (by rw [hks];omega) hwa.kept hwb.kept (fun b hb=>(ha.marks.lt hb).2) (fun _ w' hC k'=>?_) fun hne=>?_
 ·refine hK _ w' hC ⟨⟨⟨now,hg.pow (pw:=⟨true,0,z.ps.pw.steps⟩) ⟨rfl,rfl⟩ hs0,hnow⟩,h.wa.qv.v2,h.wa.qv.es,h.wa.qv.nd,h.wa.qv.last,h.wa.qv.fok⟩,?_,?_,hlat,hkey,h.wa.room,h.wa.steps,by rw [exa];exact h.wa.a,by rw [exb];exact h.wa.b,h.wa.last,?_⟩ k'
  ·rw [exa]
   refine ⟨Ls false,hwa.kept,fun hf=>?_⟩
   subst hf
   have lt:Ls false=T:=lt
   rw [lt] at hwa ⊢
   exact ⟨hwa,t2,t3⟩
  ·rw [exb]
   refine ⟨Ls true,hwb.kept,fun hf=>?_⟩
   have hf:f=false:=by cases f <;> simp_all
   subst hf
   have lt:Ls true=T:=lt
   rw [lt] at hwb ⊢
   exact ⟨hwb,t2,t3⟩
  ·show loseD z.d=dk0
   rw [hd];rfl
 ·rw [hks,hsrc] at hne
  exact absurd rfl hne
theorem DownA.startOk {q:AB} {z:AS} {f:Bool} {e x y S A L:Int} {fin:Int→Sec} {pp:Option Addr} (h:DownA q z f e x y S A L fin) (ha:ArC w q 0 pp z) (he:0≤e∧e<1000) (hz:q.pb.sz=65536) (hroom:1≤q.pb.room∧q.pb.room≤64) (hcap:capG20 q.g≤100000) (hS:S≤1000000) (hA:A≤60000) (hL:L≤1000000)
  (hK:∀ p c mp s' w' e',e<e'→e'≤e+2→w.heap.size≤p→w.heap.size≤mp→ArAt w' (q.re p c mp) 0 s'→WaI (q.re p c mp) s' e' x y (S+4) (max 2405 A) L fin s'→Use s' e' (!f)→s'.d=dk0→s'.ps.epoch=e'→livesA s' f=false→upA s' f=false→(cond f s'.ps.ub s'.ps.ua)=false→Keep (ArS q w) w w'→R (.int .i64 0) w') :
  zB Tryz.prog 21 #[.pointer (some ⟨q.a,0,none⟩),.bool f,.bool (!f)] w R:=by
 obtain ⟨X,mX⟩:=h.ma
 obtain ⟨Y,mY⟩:=h.mb
 have h1:=h.steps
 have h2:=h.a
 have h3:=h.b
 have h4:=h.last
 have h5:=h.room
 refine start_ok ha h.qv (f0:=f) (f1 := !f) (by cases f <;> simp) mX mY h.later h.key ⟨he.1,by omega⟩ (by omega) (by omega) hz hroom h.room hcap (by omega) (by omega) fun p c mp s' w' e' he1 he2 hp hmp ha' hSt _ _ _ k'=>?_
 have s1:=hSt.steps
 have s2:=hSt.a
 have s3:=hSt.b
 have s4:=hSt.last
 have s5:=hSt.len
 refine hK p c mp s' w' e' he1 he2 hp hmp ha' ⟨hSt.qv,hSt.jn,Downs.refl _,?_,by omega,by omega,by omega,by omega,like_refl _,fun _=>rfl,fun _=>rfl⟩ ⟨?_,?_,?_,Or.inl ?_,by omega⟩ ?_ hSt.epoch ?_ ?_ ?_ k'
 ·show (s'.ps.es.length:Int)≤q.pb.room
  omega
 ·cases f
  ·exact hSt.up.2
  ·exact hSt.up.1
 ·cases f
  ·exact hSt.ep.2
  ·exact hSt.ep.1
 ·cases f
  ·exact hSt.lives.2
  ·exact hSt.lives.1
 ·cases f
  ·exact hSt.ua.1
  ·exact hSt.ua.2
 ·rw [hSt.d,h.d];rfl
 ·cases f
  ·exact hSt.lives.1
  ·exact hSt.lives.2
 ·cases f
  ·exact hSt.ua.1
  ·exact hSt.ua.2
 ·cases f
  ·exact hSt.up.1
  ·exact hSt.up.2
end calls
section calls
variable {w w0:World} {R:Value→World→Prop}
set_option maxHeartbeats 1000000 in
theorem take21 {x y z room:Int} {f:Bool} {lp:Option Addr} {ll lc:Nat} {xs:List Int} {mp:Option Addr} {ml mc:Nat} {ys:List Int} (hx:0≤x∧x≤255) (hy:0≤y∧y≤255) (hz:0≤z∧z≤255) (hr:0≤room∧room≤255) (hxs:SlL byLay w lp ll xs) (hxb:By xs) (hys:SlL byLay w mp ml ys) (hyb:By ys)
  (hK:∀ w',Keep (fun _=>False) w w'→R (.bool true) w'):zB Tryz.prog 4 #[.int .u8 x,.int .u8 y,.int .u8 z,.int .u8 room,.bool f,.slice lp ll lc,.slice mp ml mc] w R:=by
 apply C_ravelintop_WholeTakeover
 unfold F_ravelintop_WholeTakeover
 obtain rfl:ll=xs.length:=hxs.1
 obtain rfl:ml=ys.length:=hys.1
 refine w_form hx hy hz fun w1 k1=>OpA_agg.2 ⟨rfl,by decide,?_⟩
 have hg:=formG_ok (a:=x) (b:=y) (c:=z)
 generalize formG x y z=g at *
 have hgd:4≤g.d∧g.d≤32:=hg.d
 have hsz:=hg.size
 have hcap:=hg.cap
 obtain ⟨r,hr1⟩:∃ r,r=room % 5+1:=⟨_,rfl⟩
 have hrm:IntKind.wrap .i64 (Int.tmod (IntKind.wrap .i64 room) 5+1)=r:=by rw [wrapI (x:=room) (by omega) (by omega),Int.tmod_eq_emod_of_nonneg hr.1,wrapI (by omega) (by omega),hr1]
 rw [hrm]
 refine ar_New hg (by omega) (by omega) fun q w3 hqg hqr hqs h3 hf k3=>T2_mk.2 (OpN_some.2 (zA.2 ?_))
 refine w_wakes fun w4 k4=>OpB_bool.2 ⟨rfl,rfl,rfl,rfl,(Cb_false (p:=_)).2 ?_⟩
 refine ar_Capacity (h3.keep0 k4) fun w6 k6=>zA.2 ?_
 rw [hqg]
 have hcapE:(g.d-2)*g.c*g.s=capG20 g:=rfl
 rw [hcapE] at hcap ⊢
 obtain ⟨n,hn⟩:∃ n:Nat,(n:Int)=capG20 g:=⟨(capG20 g).toNat,by omega⟩
 obtain ⟨w7,hr7,o7,k7,z7⟩:=run_mkS20 w6 (n:=n) (by omega)
 rw [hn] at hr7
 refine ⟨_,_,hr7,zC.2 ?_⟩
 have k37:=(k4.trans k6).trans k7
 have h7:=h3.keep0 k37
 have k07:=(k1.trans k3).trans k37
 have hN0:w.heap.size≤w1.heap.size:=k1.size
 have hBlow:w.heap.size≤w6.heap.size:=((k1.trans k3).trans (k4.trans k6)).size
 rw [nowA_zero] at o7
 clear h3 k1 k3 k4 k6 k7 hr7 k37
 generalize w1.heap.size=N0 at *
 generalize hB:w6.heap.size=B at *
 have hu:=fun f=>use_new g f
 have hcapq:capG20 q.g≤100000:=by rw [hqg];omega
 have hnq:(n:Int)=capG20 q.g:=by rw [hqg];exact hn
 have hroom:1≤q.pb.room∧q.pb.room≤64:=by rw [hqr];omega
 have hI0:=wa_new (q:=q) hg hqg hroom.1 0 0
 refine ⟨fun st w'=>st.1=sideN f∧st.2.1=sideN (!f)∧w'=w7,?_,?_⟩
 ·cases f
  ·exact (Cb_false (p:=_)).2 ⟨rfl,rfl,rfl⟩
  ·exact (Cb_true (q:=_)).2 ⟨rfl,rfl,rfl⟩
 rintro _ ⟨n1,n2,u0⟩ w7 ⟨e1,e2,rfl⟩
 simp only at e1 e2 ⊢
 subst e1
 subst e2
 have idx:∀ v:Int,0≤v∧v≤255→∃ l:Nat,l<n∧Int.tmod (IntKind.wrap .i64 v) (capG20 g)=(l:Int):=fun v hv8=>by
  have h1:=Int.emod_nonneg v (show capG20 g≠0 by omega)
  have h2:=Int.emod_lt_of_pos v (show 0<capG20 g by omega)
  exact ⟨(v % capG20 g).toNat,by omega,by rw [wrapI (by omega) (by omega),Int.tmod_eq_emod_of_nonneg hv8.1];omega⟩
 refine LoopC_of (σ:=Int×Unit) (fun st w'=>∃ (i:Nat) (s:AS) (fin:Int→Sec),st.1=(i:Int)∧i≤xs.length∧i≤40∧ArAt w' q 0 s∧WaI q (arS0 g) 0 0 0 (17*(i:Int)) (518*(i:Int)) (2*(i:Int)) fin s∧OwnL secLay w' B 37 (some ⟨B,0,none⟩) n n (nowA n fin)∧Keep (fun _=>False) w w') (fun st _=>(40-st.1).toNat) ⟨0,arS0 g,now0,rfl,by omega,by omega,h7,hI0,o7,k07⟩ ?_
 clear h7 hI0 o7 k07
 rintro _ ⟨i1,u1⟩ w8 ⟨i,s,fin,hi,hil,hi40,ha,hI,o,kk⟩
 simp only at hi ⊢
 subst hi
 refine ⟨by trivial,by trivial,?_⟩
 refine Cb_of (fun hc=>?_) (fun hc=>?_)
 ·have hc:i<xs.length∧i<40:=by
   cases h1:decide ((i:Int)<((xs.length:Nat):Int))
   ·rw [h1] at hc;cases hc
   ·rw [h1] at hc
    simp at h1 hc
    omega
  obtain ⟨v,hv⟩:∃ v,xs[i]? = some v:=⟨_,List.getElem?_eq_getElem hc.1⟩
  refine (hxs.keepB kk (by simp)).ld0 (x:=v) (v:=.int .u8 v) rfl (by omega) (by rw [Int.toNat_natCast];exact hv) rfl (zA.2 ⟨by omega,by decide,?_⟩)
  obtain ⟨l,hl,hlt⟩:=idx v (hxb v (List.mem_of_getElem? hv))
  rw [hlt]
  obtain ⟨f',hside⟩:=side_of i
  rw [hside]
  refine wr21 hI (hu f') rfl (CanStand.self hI (hu f')) ha hqs hroom (by omega) (by omega) (by omega) hcapq (n:=n) (B:=B) hnq o hf hN0 hBlow kk (i:=(i:Int)) (l:=l) hl fun s' w9 hI' ha' o' kk'=>?_
  rw [wrapI (by omega) (by omega)]
  exact ⟨_,by omega,⟨i+1,s',_,by omega,by omega,by omega,ha',hI'.mono (by omega) (by omega) (by omega),o',kk'⟩,rfl⟩
 clear hc hil hxs
 have hI:=hI.mono (S':=680) (A':=20720) (L':=80) (by omega) (by omega) (by omega)
 obtain ⟨now0',hg0,_⟩:=hI.qv.good
 have hon:s.ps.pw.on=true:=hg0.lit.1
 refine ar_Crash0 ha f hon (by rw [hI.like.lives];cases f <;> rfl) fun w9 ha9 k9=>zA.2 ((Cb_false (p:=_)).2 ?_)
 refine ar_CrashDown ha9 f hon (setLive_lives s f).1 fun w10 ha10 k10=>zA.2 ((Cb_false (p:=_)).2 ?_)
 refine DoQ_of (v:=.agg (cmdC ⟨1,0,0,none,0,0,0,0,false⟩)) (fun _=>run_build _ _ _ _ (by kernel_rfl)) (OpA_agg.2 ⟨rfl,?_⟩)
 refine ar_DoNot ha10 f hon (ready_dead (setLive_lives s f).1) fun w11 ha11 k11=>OpA_agg.2 ⟨rfl,?_⟩
 refine ⟨.int .i64 2,rfl,zA.2 ((Cb_false (p:=_)).2 ?_)⟩
 have o11:=own_arF ha10 k11 (own_arF ha9 k10 (own_arF ha k9 o))
 have kk11:Keep (fun _=>False) w w11:=((kk.trans' k9 fun i hi e=>by have:=ArF.low hf e;omega).trans' k10 fun i hi e=>by have:=ArF.low hf e;omega).trans' k11 fun i hi e=>by have:=ArF.low hf e;omega
 clear ha ha9 ha10 k9 k10 k11 o kk
 obtain ⟨e,T,hT,hCS,hlenz⟩:=stand21 (f:=f) hI hqg hg hqs (by decide) (by decide)
 generalize setLiveA s f false=s1 at *
 generalize (aloneA q s1 (!f)).2=z0 at *
 have hnum0:((z0.ds.length:Nat):Int)=q.g.d:=by
  obtain ⟨_,hgz,_⟩:=hT.wa.qv.good
  exact hgz.ss.num
 have hT:TkI q z0 z0 f e 0 0 681 20757 80 fin T:=hT
 clear hI hon hg0 hlenz
 refine LoopC_of (σ:=Int×Unit) (fun st w'=>∃ (i:Nat) (s z:AS) (fin:Int→Sec),st.1=(i:Int)∧i≤ys.length∧i≤40∧ArAt w' q 0 s∧CanStand q s (!f) z∧TkI q z0 z f e 0 0 (681+17*(i:Int)) (20757+518*(i:Int)) (80+2*(i:Int)) fin T∧OwnL secLay w' B 37 (some ⟨B,0,none⟩) n n (nowA n fin)∧Keep (fun _=>False) w w') (fun st _=>(40-st.1).toNat) ⟨0,s1,z0,fin,rfl,by omega,by omega,ha11,hCS,hT.with (hT.wa.mono (by omega) (by omega) (by omega)),o11,kk11⟩ ?_
 clear ha11 hCS hT o11 kk11
 rintro _ ⟨i2,u2⟩ w12 ⟨i,s,z,fin,hi,hil,hi40,ha,hCS,hT,o,kk⟩
 simp only at hi ⊢
 subst hi
 refine ⟨by trivial,by trivial,?_⟩
 refine Cb_of (fun hc=>?_) (fun hc=>?_)
 ·have hc:i<ys.length∧i<40:=by
   cases h1:decide ((i:Int)<((ys.length:Nat):Int))
   ·rw [h1] at hc;cases hc
   ·rw [h1] at hc
    simp at h1 hc
    omega
  obtain ⟨v,hv⟩:∃ v,ys[i]? = some v:=⟨_,List.getElem?_eq_getElem hc.1⟩
  refine (hys.keepB kk (by simp)).ld0 (x:=v) (v:=.int .u8 v) rfl (by omega) (by rw [Int.toNat_natCast];exact hv) rfl (zA.2 ⟨by omega,?_⟩)
  obtain ⟨l,hl,hlt⟩:=idx v (hyb v (List.mem_of_getElem? hv))
  rw [hlt]
  refine wr21 hT.wa hT.use hT.d hCS ha hqs hroom (by omega) (by omega) (by omega) hcapq (n:=n) (B:=B) hnq o hf hN0 hBlow kk (i:=IntKind.wrap .i64 ((i:Int)+100)) (l:=l) hl fun s' w9 hI' ha' o' kk'=>?_
  rw [wrapI (x:=(i:Int)+1) (by omega) (by omega)]
  exact ⟨_,by omega,⟨i+1,s',s',_,by omega,by omega,by omega,ha',CanStand.self hI' hT.use,hT.with (hI'.mono (by omega) (by omega) (by omega)),o',kk'⟩,rfl⟩
 clear hc hil hys
 have hT:=hT.with (hT.wa.mono (S':=1361) (A':=41477) (L':=160) (by omega) (by omega) (by omega))
 refine DoQ_of (v:=.agg (cmdC ⟨1,0,0,none,0,0,0,0,false⟩)) (fun _=>run_build _ _ _ _ (by kernel_rfl)) (OpA_agg.2 ⟨rfl,?_⟩)
 refine ar_DoTest ha (!f) hCS.ready hCS.d hCS.al fun w13 ha13 k13=>OpA_agg.2 ⟨rfl,?_⟩
 refine ⟨.int .i64 1,rfl,zA.2 ((Cb_false (p:=_)).2 ?_)⟩
 have o13:=own_arF ha k13 o
 have kk13:Keep (fun _=>False) w w13:=kk.trans' k13 fun i hi e=>by have:=ArF.low hf e;omega
 clear ha o kk k13 hCS
 obtain ⟨nowz,hgz,_⟩:=hT.wa.qv.good
 have hon:z.ps.pw.on=true:=hgz.lit.1
 have hlen:z.ds.length=z0.ds.length:=by
  have:((z.ds.length:Nat):Int)=q.g.d:=hgz.ss.num
  omega
 refine ar_Crash0 ha13 (!f) hon (by rw [hT.wa.like.lives];exact hT.use.live) fun w14 ha14 k14=>zA.2 ((Cb_false (p:=_)).2 ?_)
 have o14:=own_arF ha13 k14 o13
 have kk14:Keep (fun _=>False) w w14:=kk13.trans' k14 fun i hi e=>by have:=ArF.low hf e;omega
 clear ha13 o13 kk13 k14
 have hdd:∀ g',livesA (setLiveA z (!f) false) g'=false:=fun g'=>by
  have h1:=(setLive_lives z (!f)).1
  have h2:=(setLive_lives z (!f)).2
  rw [Bool.not_not,hT.wa.like.lives,hT.dead] at h2
  cases f <;> cases g' <;> first | exact h1 | exact h2
 refine ar_Ready ha14 false fun w15 k15=>OpB_bool.2 ?_
 rw [ready_dead (hdd false)]
 refine (Cb_false (p:=_)).2 ?_
 refine ar_Ready (ha14.keep0 k15) true fun w16 k16=>OpB_bool.2 ?_
 rw [ready_dead (hdd true)]
 refine (Cb_false (p:=_)).2 ?_
 have k1416:=k15.trans k16
 have ha16:=ha14.keep0 k1416
 refine ar_FlushDown ha16 hon (firstA_none (ready_dead (hdd false)) (ready_dead (hdd true))) fun w17 ha17 k17=>zA.2 ((Cb_false (p:=_)).2 ?_)
 have o17:=own_arF ha16 k17 (o14.keep k1416 (by simp))
 have kk17:Keep (fun _=>False) w w17:=(kk14.trans k1416).trans' k17 fun i hi e=>by have:=ArF.low hf e;omega
 clear ha14 o14 kk14 k15 k16 k1416 ha16 k17
 rw [(sideEq f).1,(sideEq f).2,(sideEq (!f)).1,(sideEq (!f)).2,Bool.not_not]
 refine hT.startFail rfl ha17 hlen fun z2 w18 hC18 hD k18=>zA.2 ((Cb_false (p:=_)).2 ?_)
 have o18:=own_arS ha17 k18 o17
 have kk18:Keep (fun _=>False) w w18:=kk17.trans' k18 fun i hi e=>by have:=ArS.low hf e;omega
 have hBp:B≠q.pb.p∧B≠q.pb.mp:=by
  obtain ⟨_,cur,hh⟩:=own_has o17 B 0 rfl
  refine ⟨typ_ne hh ha17.pair.cells (by decide),fun e=>?_⟩
  obtain ⟨_,arr,clk,hm,_⟩:=ha17.pair.cache
  subst e
  cases hh.inj hm
 have he:=hT.pos
 clear ha17 o17 kk17 k18 hT hdd hon hgz
 refine arc_Ready0 hC18 false fun w19 k19=>OpB_bool.2 ((Cb_false (p:=_)).2 ?_)
 refine arc_Ready0 (hC18.keep0 k19) true fun w20 k20=>OpB_bool.2 ((Cb_false (p:=_)).2 ?_)
 have k1820:=k19.trans k20
 have hC20:=hC18.keep0 k1820
 have o20:=o18.keep k1820 (by simp)
 have kk20:=kk18.trans k1820
 clear hC18 o18 kk18 k19 k20 k1820
 refine hD.startOk hC20 ⟨by omega,by omega⟩ hqs hroom hcapq (by decide) (by decide) (by decide) fun p c mp' s5 w21 e5 he1 he2 hp hmp ha21 hI5 hU5 hd5 hep5 hl5 hu5 hup5 k21=>zA.2 ((Cb_false (p:=_)).2 ?_)
 have o21:OwnL secLay w21 B 37 (some ⟨B,0,none⟩) n n (nowA n fin):=o20.keep k21 fun b hb=>by
  obtain ⟨_,cur,hh⟩:=own_has o20 b 0 hb
  have hbB:b=B:=by cases hb;rfl
  exact ArS.notC hC20 hh (by rw [hbB];exact hBp.1) (by rw [hbB];exact hBp.2) (by decide) (by decide) (by decide) (by decide) (by decide) (by decide) (by decide)
 have hlowN:N0≤w20.heap.size:=by have:=hC20.cells.lt;have:=hf.a;omega
 have hf':ArFrom (q.re p c mp') N0:=hf.re (by omega) (by omega)
 have kk21:Keep (fun _=>False) w w21:=kk20.trans' k21 fun i hi e=>by have:=ArS.low hf e;omega
 clear hC20 o20 kk20 k21 hD hBp
 have hrT:=hI5.ready hU5
 refine ar_Ready ha21 (!f) fun w22 k22=>OpB_bool.2 ?_
 rw [hrT]
 refine (Cb_false (p:=_)).2 ?_
 refine ar_Ready (ha21.keep0 k22) f fun w23 k23=>OpB_bool.2 ?_
 rw [ready_dead hl5]
 refine (Cb_false (p:=_)).2 ?_
 have k2123:=k22.trans k23
 have ha23:=ha21.keep0 k2123
 have o23:=o21.keep k2123 (by simp)
 have kk23:=kk21.trans k2123
 clear ha21 o21 kk21 k22 k23 k2123
 obtain ⟨now5,hg5,_⟩:=hI5.qv.good
 have hjn:=fun D (hD:IsD s5.ps.es D)=>hI5.rejoin f hU5 hup5 hep5 (by omega) hqs hroom.2 (by decide) (by decide) (by decide) hcapq hD
 have hr5:=hI5.room
 have hr5':(s5.ps.es.length:Int)≤q.pb.room:=hr5
 refine ar_Rejoin ha23 f hg5.lit.1 hrT hl5 hu5 hup5 (by omega) (fun en hen=>?_) (fun D hD=>(hjn D hD).1) fun D w24 hD ha24 k24=>zA.2 ((Cb_false (p:=_)).2 ?_)
 ·obtain ⟨e1,_⟩:=hI5.qv.es en.1 en.2 (mem_look hI5.qv.nd hen)
  have e1:0≤en.1∧en.1<capG20 q.g:=e1
  omega
 obtain ⟨_,hI6,hU6,hd6⟩:=hjn D hD
 have hrd:=reads21 (ox:=.tmp 235) (oy:=.tmp 239) hI6 hU6 (by rw [hd6];exact hd5) ha24 (n:=n) (B:=B) (p:=some ⟨B,0,none⟩) hnq (by omega) (own_arF ha23 k24 o23) (N0:=N0) hf' hN0 (kk23.trans' k24 fun i hi e=>by have:=ArF.low hf' e;omega) hK
 rw [hn] at hrd
 exact hrd
theorem take_walk21 {W:World} {x y z room:Int} {f:Bool} {lp:Option Addr} {ll lc:Nat} {xs:List Int} {mp:Option Addr} {ml mc:Nat} {ys:List Int} (hx:0≤x∧x≤255) (hy:0≤y∧y≤255) (hz:0≤z∧z≤255) (hr:0≤room∧room≤255) (hxs:SlL byLay W lp ll xs) (hxb:By xs) (hys:SlL byLay W mp ml ys) (hyb:By ys) :
  zB Tryz.prog 4 #[.int .u8 x,.int .u8 y,.int .u8 z,.int .u8 room,.bool f,.slice lp ll lc,.slice mp ml mc] W fun v w'=>v=.bool true∧Below W.heap.size W w':=take21 hx hy hz hr hxs hxb hys hyb fun w' k=>⟨rfl,k.below⟩
end calls
end Go.Proofs
namespace Go.Proofs.YthhimblbnnafkaaGreat.wholeTakeover
open Go Go.Ev Go.RowKit Go.Proofs Go.ChangeShapes Go.WideShapes Go.ChangeAt
set_option maxRecDepth 100000
theorem own:ownKnob Tryz.prog.godebug=none:=by kernel_rfl
theorem contract (H:Type) (enc:TypeId×Value→H) (W:World) (base:Nat) (args:Array Value) (ds gs:List (DataW H)) (before:List MemPlace) (hk:Rows.uptoSmall H (ds++gs)=true)
  (hval:∀ (j:Nat) t v,Tryz.f4.params[j]? = some t→args[j]? = some v→Value.okWide Tryz.prog W .any base t v)
  (hW:DataW.Whole enc Tryz.prog Tryz.f4.params.toList Rows.wholeTakeoverSpec.vars false W args.toList ds gs before) :
  Calls Tryz.prog 4 args W fun e W'=>∃ v,e=.returned v∧Rows.wholeTakeoverSpec.post enc Tryz.prog Tryz.f4 false true false false W args v W':=by
 have hW':=hW
 obtain ⟨p,q,hA0,hV,rfl,hfz,hnd⟩:=hW
 have hA:DataW.TrodAll enc Tryz.prog W 0 (fun _=>true) true Tryz.f4.params.toList args.toList ds p:=hA0
 rw [Tryz.params4] at hA hval
 obtain ⟨v0,vs0,d0,ds0,pp0,q0,hargs,rfl,rfl,h0,r0⟩:=trodAll_cons hA
 obtain ⟨v1,vs1,d1,ds1,pp1,q1,rfl,rfl,rfl,h1,r1⟩:=trodAll_cons r0
 obtain ⟨v2,vs2,d2,ds2,pp2,q2,rfl,rfl,rfl,h2,r2⟩:=trodAll_cons r1
 obtain ⟨v3,vs3,d3,ds3,pp3,q3,rfl,rfl,rfl,h3,r3⟩:=trodAll_cons r2
 obtain ⟨v4,vs4,d4,ds4,pp4,q4,rfl,rfl,rfl,h4,r4⟩:=trodAll_cons r3
 obtain ⟨v5,vs5,d5,ds5,pp5,q5,rfl,rfl,rfl,h5,r5⟩:=trodAll_cons r4
 obtain ⟨v6,vs6,d6,ds6,pp6,q6,rfl,rfl,rfl,h6,r6⟩:=trodAll_cons r5
 obtain ⟨rfl,rfl,rfl⟩:=trodAll_nil r6
 obtain rfl:args=#[v0,v1,v2,v3,v4,v5,v6]:=by cases args;simp_all
 obtain ⟨a0,rfl,rfl,rfl,w0⟩:=open_int (t:=5) (k:=.u8) (by kernel_rfl) (hval 0 5 v0 rfl rfl) h0
 obtain ⟨a1,rfl,rfl,rfl,w1⟩:=open_int (t:=5) (k:=.u8) (by kernel_rfl) (hval 1 5 v1 rfl rfl) h1
 obtain ⟨a2,rfl,rfl,rfl,w2⟩:=open_int (t:=5) (k:=.u8) (by kernel_rfl) (hval 2 5 v2 rfl rfl) h2
 obtain ⟨a3,rfl,rfl,rfl,w3⟩:=open_int (t:=5) (k:=.u8) (by kernel_rfl) (hval 3 5 v3 rfl rfl) h3
 obtain ⟨a4,rfl,rfl,rfl⟩:=open_bool (t:=4) (by kernel_rfl) (hval 4 4 v4 rfl rfl) h4
 obtain ⟨p5,l5,c5,g5,rfl,lc5,cm5,s5,f5,b5⟩:=sl_openB (t:=22) (e:=5) (ks:=[.int .u8]) (by kernel_rfl) (by kernel_rfl) (by kernel_rfl) (by decide) (hval 5 22 v5 rfl rfl) h5
 have hb5:=small_mem hk (d:=d5) (by simp)
 obtain ⟨p6,l6,c6,g6,rfl,lc6,cm6,s6,f6,b6⟩:=sl_openB (t:=22) (e:=5) (ks:=[.int .u8]) (by kernel_rfl) (by kernel_rfl) (by kernel_rfl) (by decide) (hval 6 22 v6 rfl rfl) h6
 have hb6:=small_mem hk (d:=d6) (by simp)
 refine Calls.mono (have r:=fun (x:Int) (h:(Lit.wf (.int .u8 x))=true)=>(show 0≤x∧x≤255 by simp [Lit.wf,IntKind.min,IntKind.max,IntKind.signed,IntKind.bits] at h;omega);have ⟨ys,hy,hby⟩:=bytes_list s5 f5;have ⟨zs,hz,hbz⟩:=bytes_list s6 f6;take_walk21 (f:=a4) (lc:=c5) (mc:=c6) (r _ w0) (r _ w1) (r _ w2) (r _ w3) hy hby hz hbz) fun e W' ⟨v,he,hv,hg⟩=>?_
 subst he hv
 exact ⟨_,rfl,post_below hW' (by kernel_rfl) rfl (by kernel_rfl) rfl rfl (by decide +kernel) hg⟩
theorem lifted (os:Os) (started:os.Started) (H:Type) (enc:TypeId×Value→H) (F:Stop.Interp) :
  ReturnsInHanded {} Tryz.checked os 4 .any ((Rows.OpenSpec.upto Rows.wholeTakeoverSpec).pre6 enc Tryz.prog Tryz.f4 Rows.wholeTakeoverUptoRow.domain false) (((Rows.OpenSpec.upto Rows.wholeTakeoverSpec).at F).post enc Tryz.prog Tryz.f4 false true false false):=by
 refine returnsInHanded_of_cond (C:=Tryz.checked) (s:=Rows.OpenSpec.upto Rows.wholeTakeoverSpec) (k:=Rows.uptoSmall) rfl own started (by kernel_rfl) Tryz.func4
  (OpenSpec.witness (enc:=enc) (C:=Tryz.checked) (s:=Rows.OpenSpec.upto Rows.wholeTakeoverSpec) (k:=Rows.uptoSmall) rfl false ⟨#[],#[.int .u8 0,.int .u8 0,.int .u8 0,.int .u8 0,.bool false,.slice none 0 0,.slice none 0 0],[]⟩ 8 (by kernel_rfl) (by kernel_rfl) (by kernel_rfl)
   (x:=([.lit (.int .u8 0),.lit (.int .u8 0),.lit (.int .u8 0),.lit (.int .u8 0),.lit (.bool false),.nil,.nil],[],[])) (by kernel_rfl) rfl (by kernel_rfl)) ?_
 intro W base args ds gs before hval hW _ hk _
 exact contract H enc W base args ds gs before hk hval hW
theorem t1:(Rows.wholeTakeoverUptoRow.inPlace==Tryz.prog.inPlace 4)=true:=by kernel_rfl
theorem t2:(Rows.wholeTakeoverUptoRow.unfollowed==Tryz.prog.unfollowed 4)=true:=by kernel_rfl
theorem t4:(Rows.wholeTakeoverUptoRow.named==Tryz.prog.varsNamed 4)=true:=by kernel_rfl
theorem r1:Tryz.prog.unfollowed 4=true:=by kernel_rfl
theorem t3:(Rows.wholeTakeoverUptoRow.recurses==Tryz.prog.recurses 4)=true:=by
 have:Tryz.prog.recurses 4=true:=by unfold Program.recurses;rw [r1];rfl
 rw [this];rfl
theorem closed:joinedFacts Tryz.pinned.checked.prog 4 Tryz.f4 (Rows.OpenSpec.upto Rows.wholeTakeoverSpec).bare Rows.wholeTakeoverUptoRow=true:=by
 unfold joinedFacts
 simp only [Bool.and_eq_true]
 refine ⟨⟨⟨⟨⟨⟨⟨⟨⟨⟨⟨⟨⟨⟨⟨⟨⟨⟨⟨⟨⟨⟨⟨⟨⟨⟨⟨⟨⟨⟨⟨?_,?_⟩,?_⟩,?_⟩,?_⟩,?_⟩,?_⟩,?_⟩,?_⟩,t1⟩,t2⟩,t3⟩,t4⟩,?_⟩,?_⟩,?_⟩,?_⟩,?_⟩,?_⟩,?_⟩,?_⟩,?_⟩,?_⟩,?_⟩,?_⟩,?_⟩,?_⟩,?_⟩,?_⟩,?_⟩,?_⟩,?_⟩
 all_goals kernel_rfl
theorem over:Rows.wholeTakeoverUptoRow.holds Tryz.pinned (Rows.OpenSpec.upto Rows.wholeTakeoverSpec) :=
 OpenClaim.holds_of_cond 4 Tryz.f4 rfl rfl rfl rfl rfl rfl rfl ⟨rfl,rfl,rfl,rfl,rfl⟩ rfl rfl rfl rfl rfl (by kernel_rfl) Tryz.func4 closed
  (of_decide_eq_true (by kernel_rfl)) (by unfold Func.isWrapper;first | (rw [if_pos (by decide +kernel)];kernel_rfl) | (rw [if_neg (by decide +kernel)];exact ⟨rfl,rfl⟩))
  (fun os started H enc _ F=>lifted os started H enc F)
theorem proved:Rows.WholeTakeoverUptoSaid :=
 over
end Go.Proofs.YthhimblbnnafkaaGreat.wholeTakeover
