import Derived.Test.YthhimblbnnafkaaGreatTm2
set_option linter.unusedSimpArgs false
set_option linter.unusedVariables false
namespace Go.Proofs
open Go Go.Ev
set_option maxRecDepth 100000
structure SB where
 m:Nat
 g:Geo
 bks:List (Nat×Nat)
structure SS where
 ds:List Dsk
 pw:Pow
def setV (g:Geo) (p:Option Addr) (l c:Nat):Array Value:=#[.int .i64 g.d,.int .i64 g.c,.int .i64 g.s,.slice p l c]
def dLay:Lay Nat:=⟨1,fun b=>[.pointer (some ⟨b,0,none⟩)],fun _=>rfl,fun y v hv=>by rw [List.mem_singleton.1 hv];rfl,by decide⟩
structure SetAt (w:World) (q:SB) (s:SS):Prop where
 main:MaAt w q.m s.pw
 geo:GeoOk q.g
 len:q.bks.length=s.ds.length
 num:(s.ds.length:Int)=q.g.d
 disks:∀ (i:Nat) (br:Nat×Nat) (D:Dsk),q.bks[i]? = some br→s.ds[i]? = some D→DiskAt w q.m br.1 br.2 D∧(D.secs.length:Int)=q.g.c*q.g.s
 nodb:(q.bks.map Prod.fst).Nodup
 nodr:(q.bks.map Prod.snd).Nodup
def SFoot (q:SB) (k:Nat):Prop:=k=q.m∨k∈q.bks.map Prod.fst∨k∈q.bks.map Prod.snd
theorem nodup_at {l:List Nat} (h:l.Nodup) {i j x:Nat} (hi:l[i]? = some x) (hj:l[j]? = some x):i=j:=by
 have h1:=(List.getElem?_eq_some_iff.1 hi)
 have h2:=(List.getElem?_eq_some_iff.1 hj)
 obtain ⟨a,ha⟩:=h1
 obtain ⟨b,hb⟩:=h2
 exact (List.getElem_inj h).1 (ha.trans hb.symm)
section plain
variable {w w':World} {q:SB} {s:SS}
theorem SetAt.keep (h:SetAt w q s) {S:Nat→Prop} (k:Keep S w w') (hS:∀ i,SFoot q i→¬ S i):SetAt w' q s:=by
 refine ⟨k.has (show Has w _ _ from h.main) (hS _ (Or.inl rfl)),h.geo,h.len,h.num,fun i br D hb hD=>?_,h.nodb,h.nodr⟩
 obtain ⟨h1,h2⟩:=h.disks i br D hb hD
 refine ⟨h1.keep k (hS _ (Or.inr (Or.inl ?_))) (hS _ (Or.inr (Or.inr ?_))),h2⟩
 ·exact List.mem_map.2 ⟨br,List.mem_of_getElem? hb,rfl⟩
 ·exact List.mem_map.2 ⟨br,List.mem_of_getElem? hb,rfl⟩
theorem SetAt.keep0 (h:SetAt w q s) (k:Keep (fun _=>False) w w'):SetAt w' q s:=h.keep k fun _ _ h=>h
theorem SetAt.upd (h:SetAt w q s) {i:Nat} {b r:Nat} {D':Dsk} {pw:Pow} (hb:q.bks[i]? = some (b,r)) (k:Keep (fun k=>k=q.m∨k=b∨k=r) w w') (hd:DiskAt w' q.m b r D') (hl:(D'.secs.length:Int)=q.g.c*q.g.s) (hm:MaAt w' q.m pw) :
  SetAt w' q ⟨s.ds.set i D',pw⟩:=by
 refine ⟨hm,h.geo,by simp [h.len],by simp [h.num],fun j br D hbj hD=>?_,h.nodb,h.nodr⟩
 have hD:(s.ds.set i D')[j]? = some D:=hD
 by_cases hij:i=j
 ·subst hij
  have hlt:i<s.ds.length:=by rw [← h.len];exact (List.getElem?_eq_some_iff.1 hb).1
  rw [List.getElem?_set_self hlt] at hD
  cases hD
  rw [hb] at hbj
  cases hbj
  exact ⟨hd,hl⟩
 ·rw [List.getElem?_set_ne hij] at hD
  obtain ⟨h1,h2⟩:=h.disks j br D hbj hD
  have hDi:∃ Di,s.ds[i]? = some Di:=by
   have hlt:i<s.ds.length:=by rw [← h.len];exact (List.getElem?_eq_some_iff.1 hb).1
   exact ⟨_,List.getElem?_eq_getElem hlt⟩
  obtain ⟨Di,hDi⟩:=hDi
  obtain ⟨g1,_⟩:=h.disks i (b,r) Di hb hDi
  have ty:∀ {x y:Nat} {cs cs':Array Value},Has w x (.cells cs 220 (0,0))→Has w y (.cells cs' 260 (0,0))→x≠y:=fun h1 h2=>h1.ne h2 (by simp only [ne_eq,Obj.cells.injEq];intro e;exact absurd e.2.1 (by decide))
  have hjb:br.1≠b:=fun e=>hij (nodup_at h.nodb (x:=b) (by rw [List.getElem?_map,hb];rfl) (by rw [List.getElem?_map,hbj];simp [e]))
  have hjr:br.2≠r:=fun e=>hij (nodup_at h.nodr (x:=r) (by rw [List.getElem?_map,hb];rfl) (by rw [List.getElem?_map,hbj];simp [e]))
  obtain ⟨c1,hc1⟩:=h1.rcells
  obtain ⟨c2,hc2⟩:=g1.rcells
  obtain ⟨m1,m2⟩:=h1.nem h.main
  refine ⟨h1.keep k ?_ ?_,h2⟩
  ·rintro (e | e | e)
   ·exact m1 e
   ·exact hjb e
   ·exact ty h1.cells hc2 e
  ·rintro (e | e | e)
   ·exact m2 e
   ·exact ty g1.cells hc1 e.symm
   ·exact hjr e
theorem SetAt.get (h:SetAt w q s) {i:Nat} (hi:i<s.ds.length):∃ b r D,q.bks[i]? = some (b,r)∧s.ds[i]? = some D∧DiskAt w q.m b r D∧(D.secs.length:Int)=q.g.c*q.g.s:=by
 have h1:i<q.bks.length:=by rw [h.len];exact hi
 refine ⟨q.bks[i].1,q.bks[i].2,s.ds[i],List.getElem?_eq_getElem h1,List.getElem?_eq_getElem hi,?_⟩
 exact h.disks i _ _ (List.getElem?_eq_getElem h1) (List.getElem?_eq_getElem hi)
end plain
theorem equalIn_ptrD {P:Program} (d:Nat) {t e:TypeId} {j:TypeInfo} {a b:Nat} {ca cb:Array Value} {ta tb:TypeId} {w:World} (hp:P.underlying t=some (.pointer e)) (hte:P.info? e=some j) (hsz:j.size≠0) (hne:a≠b) (ha:Has w a (.cells ca ta (0,0))) (hb:Has w b (.cells cb tb (0,0))) :
  (Op.equalIn (d+1) t (.pointer (some ⟨a,0,none⟩)) (.pointer (some ⟨b,0,none⟩))).run P w=.ok false w:=by
 have hs:=run_sameAddr_other (P:=P) w (a:=⟨a,0,none⟩) (b:=⟨b,0,none⟩) (fun e=>by injection e with e;exact hne e) ha hb
 simp [Op.equalIn,run_underlying hp,typeInfo,sizeOf,hte,hsz,hs]
theorem eql_ptrD {a b:Nat} {ca cb:Array Value} {ta tb:TypeId} {w:World} (hne:a≠b) (ha:Has w a (.cells ca ta (0,0))) (hb:Has w b (.cells cb tb (0,0))) :
  (binOp .eql 111 (.pointer (some ⟨a,0,none⟩)) (.pointer (some ⟨b,0,none⟩))).run Tryz.prog w=.ok (.bool false) w:=by
 have hm:(Tryz.prog.info? 220).map (·.size)=some 4:=by kernel_rfl
 cases hj:Tryz.prog.info? 220 with
 | none=>rw [hj] at hm;cases hm
 | some j =>
  rw [hj] at hm
  have hz:j.size=4:=Option.some.inj hm
  have:=equalIn_ptrD (P:=Tryz.prog) 9999 (t:=111) (e:=220) (by kernel_rfl) hj (by rw [hz];decide) hne ha hb
  simp only [binOp]
  simp [Op.equal,Op.maxDepth,this]
theorem EqB_ptrD {a b:Nat} {ca cb:Array Value} {ta tb:TypeId} {w:World} {x y:Operand} {K:Bool→Prop} (hne:a≠b) (ha:Has w a (.cells ca ta (0,0))) (hb:Has w b (.cells cb tb (0,0))) (hK:K false) :
  EqB Tryz.prog .eql 111 x y (.pointer (some ⟨a,0,none⟩)) (.pointer (some ⟨b,0,none⟩)) (At w) K:=by
 refine ⟨false,fun w' hw=>?_,hK⟩
 obtain ⟨d,rfl⟩:=hw
 have hg:Tryz.prog.eqGuardType Tryz.prog.depth 111=false:=by kernel_rfl
 have:=eql_ptrD (w:=w.dr d) hne ha hb
 simp only [eqGuard,Sem.run_bind,run_program,hg,Bool.not_false,if_true,Result.andThen_ok,this]
 try simp [Sem.run_bind,Sem.run_pure,run_program,hg,this]
section calls
variable {w:World} {q:SB} {s:SS} {R:Value→World→Prop}
theorem one_setV (g:Geo) (p:Option Addr) (l c:Nat):∀ v∈(setV g p l c).toList,oneV v=true:=by
 intro v hv
 have hv:v∈[Value.int .i64 g.d,.int .i64 g.c,.int .i64 g.s,.slice p l c]:=hv
 simp only [List.mem_cons,List.not_mem_nil,or_false] at hv
 rcases hv with rfl | rfl | rfl | rfl <;> rfl
theorem st_Check (h:SetAt w q s) {p:Option Addr} {l c:Nat} (hsl:SlL dLay w p l (q.bks.map Prod.fst)) (hlc:l≤c) (hK:∀ w',Keep (fun _=>False) w w'→R (.int .i64 0) w'):zB Tryz.prog 93 #[.agg (setV q.g p l c)] w R:=by
 apply C_stripe_Check
 unfold F_stripe_Check
 have hll:l=s.ds.length:=by have:=hsl.1;rw [List.length_map,h.len] at this;exact this
 have hnum:=h.num
 have hgd:=h.geo.d
 refine alc_fresh fun w1 hb1 k1 z1=>?_
 refine LdA_has (cs:=geoV q.g) hb1 (by show 0+3≤4;decide) rfl ?_
 refine l_Size h.geo fun w2 k2=>?_
 refine T2_mk.2 (zA.2 (zA.2 ((Cb_false (p:=_)).2 ?_)))
 have hb2:=k2.has hb1 (by simp)
 refine LdV_has (v:=.slice p l c) hb2 rfl (zC.2 ?_)
 refine LdV_has (v:=.int .i64 q.g.d) hb2 rfl (zA.2 ?_)
 have e1:(((l:Nat):Int)!=q.g.d)=false:=by rw [hll,hnum];simp
 rw [e1]
 refine (Cb_false (p:=_)).2 ?_
 refine LdV_has (v:=.slice p l c) hb2 rfl (zC.2 ?_)
 have k02:=k1.trans k2
 refine LoopC_of (σ:=Int×Unit) (fun st w'=>∃ i:Nat,st.1=(i:Int)∧i≤l∧Keep (fun _=>False) w2 w') (fun st _=>(l-st.1).toNat) ⟨0,rfl,by omega,Keep.refl _ _⟩ ?_
 rintro _ ⟨i,u⟩ w3 ⟨i',hi,hil,k3⟩
 simp only at hi ⊢
 subst hi
 have k03:=k02.trans k3
 have h3:=h.keep0 k03
 have hsl3:=hsl.keepB k03 (by simp)
 have hb3:=k3.has hb2 (by simp)
 refine Cb_of (fun hc=>?_) (fun hc=>?_)
 ·have hc:i'<l:=by
   have:(i':Int)<(l:Int):=by simpa using hc
   omega
  obtain ⟨b,r,D,hbk,hD,hda,hdl⟩:=h3.get (i:=i') (by omega)
  refine hsl3.ld0 (i:=(i':Int)) (n:=1) (x:=b) (v:=.pointer (some ⟨b,0,none⟩)) rfl (by omega) (by rw [Int.toNat_natCast,List.getElem?_map,hbk];rfl) rfl (OpN_some.2 ?_)
  refine d_Size hda ?_
  refine zA.2 ?_
  have e2:(((D.secs.length:Nat):Int)!=q.g.c*q.g.s)=false:=by rw [hdl];simp
  rw [e2]
  refine (Cb_false (p:=_)).2 ?_
  refine LdV_has (v:=.slice p l c) hb3 rfl (zC.2 ?_)
  refine Slc_hiN (hi:=i') (by omega) ?_
  have hsub:=hsl3.sub (lo:=0) (hi:=i') (m:=c) (by omega) (by omega) (by omega)
  rw [List.drop_zero] at hsub
  have e3:IntKind.wrap .i64 ((i':Int)+1)=((i'+1:Nat):Int):=by
   have:l≤32:=by omega
   rw [wrapI (by omega) (by omega)];omega
  refine LoopC_of (σ:=Int×Unit) (fun st w'=>∃ j:Nat,st.1=(j:Int)∧j≤i'∧w'=w3) (fun st _=>(i'-st.1).toNat) ⟨0,rfl,by omega,rfl⟩ ?_
  rintro _ ⟨j,u⟩ w4 ⟨j',hj,hjl,hw⟩
  simp only at hj ⊢
  subst hj
  rw [hw]
  clear hw
  refine Cb_of (fun hc2=>?_) (fun hc2=>?_)
  ·have hc2:j'<i':=by
    have:(j':Int)<((i'-0:Nat):Int):=by simpa using hc2
    omega
   obtain ⟨b2,r2,D2,hbk2,hD2,hda2,hdl2⟩:=h3.get (i:=j') (by omega)
   refine hsub.ld0 (i:=(j':Int)) (n:=1) (x:=b2) (v:=.pointer (some ⟨b2,0,none⟩)) rfl (by omega) (by rw [Int.toNat_natCast,List.getElem?_take,if_pos hc2,List.getElem?_map,hbk2];rfl) rfl (OpN_some.2 ?_)
   have hne:b2≠b:=fun e=>by
    have:=nodup_at h3.nodb (i:=j') (j:=i') (x:=b) (by rw [List.getElem?_map,hbk2,e];rfl) (by rw [List.getElem?_map,hbk];rfl)
    omega
   refine EqB_ptrD hne hda2.cells hda.cells ?_
   refine (Cb_false (p:=_)).2 ?_
   have e4:IntKind.wrap .i64 ((j':Int)+1)=((j'+1:Nat):Int):=by
    have:l≤32:=by omega
    rw [wrapI (by omega) (by omega)];omega
   exact ⟨_,by show ((i':Int)-IntKind.wrap .i64 ((j':Int)+1)).toNat<((i':Int)-(j':Int)).toNat;rw [e4];omega,⟨j'+1,e4,by omega,rfl⟩,rfl⟩
  ·exact ⟨_,by show ((l:Int)-IntKind.wrap .i64 ((i':Int)+1)).toNat<((l:Int)-(i':Int)).toNat;rw [e3];omega,⟨i'+1,e3,by omega,k3⟩,rfl⟩
 ·exact Ret_nil.2 (hK w3 k03)
end calls
structure PutS where
 plc:Plc
 cel:Cel
def putSL (x:PutS):List Value:=plcL x.plc++celL x.cel
theorem one_putSL (x:PutS):∀ v∈putSL x,oneV v=true:=by
 intro v hv
 rcases List.mem_append.1 hv with h | h
 ·exact plLay.one _ v h
 ·exact one_celL _ v h
def putSV (x:PutS):Array Value:=(putSL x).toArray
def puLay:Lay PutS:=⟨19,putSL,fun _=>rfl,one_putSL,by decide⟩
theorem ext_put (x:PutS):(putSV x).extract 2 (2+17)=celV x.cel:=by
 apply Array.ext'
 unfold putSV celV putSL plcL
 simp only [Array.toList_extract,List.extract_eq_take_drop,List.cons_append,List.nil_append,List.drop_succ_cons,List.drop_zero]
 exact List.take_of_length_le (Nat.le_refl 17)
theorem at_put (x:PutS):(putSV x)[1]? = some (.int .i64 x.plc.at_):=rfl
def dsk0:Dsk:=⟨[],0,false⟩
def put0:PutS:=⟨⟨0,0⟩,cel0⟩
theorem zc_put:zc Tryz.prog 88=putSV put0:=by kernel_rfl
def apply1 (s:SS) (x:PutS) (ep:Int):Int×SS :=
 let r:=writeD s.pw (s.ds.getD x.plc.dk.toNat dsk0) x.plc.at_ x.cel ep
 (r.1.2,⟨s.ds.set x.plc.dk.toNat r.2.2,r.2.1⟩)
def applyL (ep:Int):List PutS→SS→Int×SS
 | [],s=>(0,s)
 | x::xs,s=>if (apply1 s x ep).1≠0∧(apply1 s x ep).1≠5 then apply1 s x ep else applyL ep xs (apply1 s x ep).2
def PutOk (g:Geo) (x:PutS):Prop:=(0≤x.plc.dk∧x.plc.dk<g.d)∧(0≤x.plc.at_∧x.plc.at_<g.c*g.s)
instance (g:Geo) (x:PutS):Decidable (PutOk g x):=by unfold PutOk;infer_instance
def applyS (g:Geo) (s:SS) (xs:List PutS) (ep:Int):Int×SS:=if ∀ x∈xs,PutOk g x then applyL ep xs s else (2,s)
theorem writeD_len {pw:Pow} {D:Dsk} {at_ ep:Int} {c:Cel}:(writeD pw D at_ c ep).2.2.secs.length=D.secs.length:=by
 unfold writeD
 split
 ·rfl
 ·split
  ·rfl
  ·split
   ·rfl
   ·split
    ·rfl
    ·simp
theorem CallQ_of {P:Program} {f:FuncId} {args:Array Value} {w:World} {V:Value} {K:Value→Prop} (h:∀ d,zB P f args (w.dr d) fun v w'=>v=V∧w'=w.dr d) (hK:K V):CallQ P f args (At w) K:=by
 refine ⟨V,?_,hK⟩
 rintro w' ⟨d,rfl⟩
 exact Calls.mono (h d) fun e w' ⟨v,he,hv,hw⟩=>⟨by rw [he,hv],by rw [hw];exact ⟨d,rfl⟩⟩
theorem bsl_c1 (c:Cel) (w:World):(Instr.buildSlice 167 1 #[(0,.agg (celV c))]).run Tryz.prog w=.ok (.slice (some ⟨w.heap.size,0,none⟩) 1 1) (w.alloc (.cells (celV c) 86)) :=
 run_buildSlice w 167 86 1 _ (celV c) ((Tryz.prog.info? 86).get (by kernel_rfl)) (((Tryz.prog.info? 86).get (by kernel_rfl)).zero.get (by kernel_rfl)) (by kernel_rfl) (by kernel_rfl) (by kernel_rfl) (by decide +kernel) (by decide +kernel) (by kernel_rfl)
theorem sl_c1 {w:World} {c:Cel} {b:Nat} (h:Has w b (.cells (celV c) 86 (0,0))):SlL cLay w (some ⟨b,0,none⟩) 1 [c]:=by
 have:=OwnL.mk (L:=cLay) (base:=0) (xs:=[c]) (Nat.zero_le _) h (by simp [maxLen]) (by rw [cLay.rows_one'];rfl)
 exact this.sl
section calls
variable {w:World} {q:SB} {s:SS} {R:Value→World→Prop}
theorem SetAt.typ (h:SetAt w q s) {k:Nat} {cs:Array Value} {t:TypeId} {f:Nat×Nat} (hk:Has w k (.cells cs t f)) (h1:t≠209) (h2:t≠220) (h3:t≠260):¬ SFoot q k:=by
 have no:∀ {cs':Array Value} {t':TypeId} {f':Nat×Nat} {b:Nat},Has w b (.cells cs' t' f')→t≠t'→k≠b:=by
  intro cs' t' f' b hb ht' e
  subst e
  have:=hk.inj hb
  simp only [Obj.cells.injEq] at this
  exact ht' this.2.1
 rintro (e | e | e)
 ·exact no (show Has w _ _ from h.main) h1 e
 ·obtain ⟨br,hbr,rfl⟩:=List.mem_map.1 e
  obtain ⟨i,hi⟩:=List.getElem?_of_mem hbr
  have hlt:=(List.getElem?_eq_some_iff.1 hi).1
  obtain ⟨b,r,D,hb,hD,hda,_⟩:=h.get (i:=i) (by rw [← h.len];exact hlt)
  rw [hi] at hb
  cases hb
  exact no hda.cells h2 rfl
 ·obtain ⟨br,hbr,rfl⟩:=List.mem_map.1 e
  obtain ⟨i,hi⟩:=List.getElem?_of_mem hbr
  have hlt:=(List.getElem?_eq_some_iff.1 hi).1
  obtain ⟨b,r,D,hb,hD,hda,_⟩:=h.get (i:=i) (by rw [← h.len];exact hlt)
  rw [hi] at hb
  cases hb
  obtain ⟨cs',hc⟩:=hda.rcells
  exact no hc h3 rfl
theorem st_Apply (h:SetAt w q s) {p:Option Addr} {l c:Nat} (hsl:SlL dLay w p l (q.bks.map Prod.fst)) (hlc:l≤c) (hpf:∀ b o,p=some ⟨b,o,none⟩→¬ SFoot q b) {pp:Option Addr} {pl pc:Nat} {xs:List PutS} {ep:Int} (hps:SlL puLay w pp pl xs) (hpl:pl≤1000000) (hppf:∀ b o,pp=some ⟨b,o,none⟩→¬ SFoot q b)
  (hK:∀ w',SetAt w' q (applyS q.g s xs ep).2→Keep (SFoot q) w w'→R (.int .i64 (applyS q.g s xs ep).1) w'):zB Tryz.prog 38 #[.agg (setV q.g p l c),.slice pp pl pc,.int .u32 ep] w R:=by
 apply C_stripe_Apply
 unfold F_stripe_Apply
 have hll:l=s.ds.length:=by have:=hsl.1;rw [List.length_map,h.len] at this;exact this
 have hnum:=h.num
 have hgd:=h.geo.d
 have hplx:=hps.1
 have foot0:∀ {w':World},Keep (fun _=>False) w w'→Keep (SFoot q) w w':=fun k=>k.mono fun _ h=>h.elim
 refine alc_fresh fun w1 hb1 k1 z1=>?_
 refine LdA_all hb1 rfl ?_
 have h1:=h.keep0 k1
 refine st_Check h1 (hsl.keepB k1 (by simp)) hlc fun w2 k2=>?_
 refine zA.2 ((Cb_false (p:=_)).2 ?_)
 have hb2:=k2.has hb1 (by simp)
 have k02:=k1.trans k2
 have ek:∀ {n:Nat},n<pl→IntKind.wrap .i64 ((n:Int)+1)=((n+1:Nat):Int):=fun h=>by rw [wrapI (by omega) (by omega)];omega
 refine LoopC_of (σ:=Int×Unit) (fun st w'=>∃ i:Nat,st.1=(i:Int)∧i≤pl∧(∀ x∈xs.take i,PutOk q.g x)∧Keep (fun _=>False) w w'∧Has w' w.heap.size (.cells (setV q.g p l c) 51 (0,0))) (fun st _=>(pl-st.1).toNat) ⟨0,rfl,by omega,by simp,k02,hb2⟩ ?_
 rintro _ ⟨i,u⟩ w3 ⟨i',hi,hil,hok,k3,hb3⟩
 simp only at hi ⊢
 subst hi
 have h3:=h.keep0 k3
 have hps3:=hps.keepB k3 (by simp)
 refine Cb_of (fun hc=>?_) (fun hc=>?_)
 ·have hc:i'<pl:=by
   have:(i':Int)<(pl:Int):=by simpa using hc
   omega
  obtain ⟨x,hx⟩:∃ x,xs[i']? = some x:=⟨_,List.getElem?_eq_getElem (by omega)⟩
  refine hps3.ldA (i:=(i':Int)) (n:=19) (x:=x) rfl (by omega) (by simpa using hx) ?_
  refine copy_of (by rw [zc_put];rfl) rfl (fun v hv=>puLay.one x v (by simpa using hv)) fun w4 hb4 k4 z4=>?_
  have hb4:Has w4 w3.heap.size (.cells (putSV x) 88 (0,0)):=hb4
  have hs4:=k4.has hb3 (by simp)
  have k04:=k3.trans k4
  have h4:=h.keep0 k04
  have bad:¬ PutOk q.g x→∀ w',Keep (fun _=>False) w w'→Ret [] (R (.int .i64 2) w'):=by
   intro hn w' k'
   unfold applyS at hK
   rw [if_neg (fun hh=>hn (hh x (List.mem_of_getElem? hx)))] at hK
   exact Ret_nil.2 (hK w' (h.keep0 k') (foot0 k'))
  refine LdV_has (v:=.int .i64 x.plc.dk) hb4 rfl (zA.2 ?_)
  refine Cb_of (fun h0=>?_) (fun h0=>?_)
  ·have h0:x.plc.dk<0:=by simpa using h0
   exact fun d=>bad (fun hp=>by have:=hp.1.1;omega) _ (k04.dr d)
  have h0:¬ x.plc.dk<0:=by simpa using h0
  refine LdV_has (v:=.int .i64 x.plc.dk) hb4 rfl (zA.2 ?_)
  refine LdV_has (v:=.slice p l c) hs4 rfl (zC.2 ?_)
  refine Cb_of (fun h1=>?_) (fun h1=>?_)
  ·have h1:x.plc.dk≥(l:Int):=by simpa using h1
   exact fun d=>bad (fun hp=>by have:=hp.1.2;omega) _ (k04.dr d)
  have h1:¬ x.plc.dk≥(l:Int):=by simpa using h1
  refine LdV_has (v:=.int .i64 x.plc.at_) hb4 rfl (zA.2 ?_)
  refine Cb_of (fun h2=>?_) (fun h2=>?_)
  ·have h2:x.plc.at_<0:=by simpa using h2
   exact fun d=>bad (fun hp=>by have:=hp.2.1;omega) _ (k04.dr d)
  have h2:¬ x.plc.at_<0:=by simpa using h2
  refine LdV_has (v:=.int .i64 x.plc.at_) hb4 rfl (zA.2 ?_)
  refine LdV_has (v:=.slice p l c) hs4 rfl (zC.2 ?_)
  obtain ⟨b,r,D,hbk,hD,hda,hdl⟩:=h4.get (i:=0) (by omega)
  refine (hsl.keepB k04 (by simp)).ld0 (i:=0) (n:=1) (x:=b) (v:=.pointer (some ⟨b,0,none⟩)) rfl (by omega) (by show (q.bks.map Prod.fst)[0]? = some b;rw [List.getElem?_map,hbk];rfl) rfl (OpN_some.2 ?_)
  refine CallQ_of (V:=.int .i64 (D.secs.length:Int)) (fun d=>d_Size (hda.keep (Keep.drew (fun _=>False) w4 d) (by simp) (by simp)) ⟨rfl,rfl⟩) ?_
  refine zA.2 fun d=>?_
  refine Cb_of (fun h5=>?_) (fun h5=>?_)
  ·have h5:x.plc.at_≥(D.secs.length:Int):=by simpa using h5
   exact bad (fun hp=>by have:=hp.2.2;omega) _ (k04.dr d)
  have h5:¬ x.plc.at_≥(D.secs.length:Int):=by simpa using h5
  refine ⟨_,by show ((pl:Int)-IntKind.wrap .i64 ((i':Int)+1)).toNat<((pl:Int)-(i':Int)).toNat;rw [ek hc];omega,⟨i'+1,ek hc,by omega,fun y hy=>?_,k04.dr d,hs4.dr d⟩,rfl⟩
  rw [List.take_add_one,hx] at hy
  rcases List.mem_append.1 hy with hy | hy
  ·exact hok y hy
  ·have:y=x:=by simpa using hy
   rw [this]
   exact ⟨⟨by omega,by omega⟩,⟨by omega,by omega⟩⟩
 ·have hc:i'=pl:=by
   have:¬ (i':Int)<(pl:Int):=by simpa using hc
   omega
  rw [List.take_of_length_le (by omega)] at hok
  unfold applyS at hK
  rw [if_pos hok] at hK
  refine LoopC_of (σ:=Int×Unit) (fun st w'=>∃ (i:Nat) (s':SS),st.1=(i:Int)∧i≤pl∧SetAt w' q s'∧applyL ep (xs.drop i) s'=applyL ep xs s∧Keep (SFoot q) w w'∧Has w' w.heap.size (.cells (setV q.g p l c) 51 (0,0))) (fun st _=>(pl-st.1).toNat) ⟨0,s,rfl,by omega,h3,rfl,foot0 k3,hb3⟩ ?_
  rintro _ ⟨i,u⟩ w5 ⟨j,s5,hj,hjl,h5,he5,k5,hb5⟩
  simp only at hj ⊢
  subst hj
  refine Cb_of (fun hc=>?_) (fun hc=>?_)
  ·have hc:j<pl:=by
    have:(j:Int)<(pl:Int):=by simpa using hc
    omega
   obtain ⟨x,hx⟩:∃ x,xs[j]? = some x:=⟨_,List.getElem?_eq_getElem (by omega)⟩
   have hxok:=hok x (List.mem_of_getElem? hx)
   have hps5:SlL puLay w5 pp pl xs:=hps.keep k5 hppf
   have hsl5:SlL dLay w5 p l (q.bks.map Prod.fst):=hsl.keep k5 hpf
   refine hps5.ldA (i:=(j:Int)) (n:=19) (x:=x) rfl (by omega) (by simpa using hx) ?_
   refine copy_of (by rw [zc_put];rfl) rfl (fun v hv=>puLay.one x v (by simpa using hv)) fun w6 hb6 k6 z6=>?_
   have hb6:Has w6 w5.heap.size (.cells (putSV x) 88 (0,0)):=hb6
   have hs6:=k6.has hb5 (by simp)
   intro d
   have kd:=Keep.drew (fun _=>False) w6 d
   have k66:=k6.trans kd
   have h6:=h5.keep0 k66
   have hl5:l=s5.ds.length:=by have:=h6.num;omega
   refine ⟨fun w'=>Has w' w5.heap.size (.cells (putSV x) 88 (0,0))∧Has w' w.heap.size (.cells (setV q.g p l c) 51 (0,0))∧SlL dLay w' p l (q.bks.map Prod.fst),⟨hb6.dr d,hs6.dr d,hsl5.keepB k66 (by simp)⟩,?_⟩
   refine LdV_of (v:=.slice p l c) (fun w' hw=>⟨_,_,_,hw.2.1,rfl⟩) (zC.2 ?_)
   refine LdV_of (v:=.int .i64 x.plc.dk) (fun w' hw=>⟨_,_,_,hw.1,rfl⟩) (zA.2 ?_)
   obtain ⟨b,r,D,hbk,hD,hda,hdl⟩:=h6.get (i:=x.plc.dk.toNat) (by have:=hxok.1;omega)
   refine SlL.ldSd (S:=fun w'=>Has w' w5.heap.size (.cells (putSV x) 88 (0,0))∧Has w' w.heap.size (.cells (setV q.g p l c) 51 (0,0))∧SlL dLay w' p l (q.bks.map Prod.fst)) (w0:=w6.dr d) ⟨hb6.dr d,hs6.dr d,hsl5.keepB k66 (by simp)⟩ (fun w' hw=>hw.2.2) (i:=x.plc.dk) (x:=b) (n:=1) (v:=.pointer (some ⟨b,0,none⟩)) rfl hxok.1.1 (by rw [List.getElem?_map,hbk];rfl) rfl ?_
   refine OpN_some.2 ?_
   refine LdV_of (v:=.int .i64 x.plc.at_) (fun w' hw=>⟨_,_,_,hw.1,at_put x⟩) (zA.2 ?_)
   refine LdA_of (cs:=celV x.cel) rfl (fun w' hw=>⟨_,_,_,hw.1,by show 2+17≤19;decide,ext_put x⟩) ?_
   refine ⟨_,_,bsl_c1 x.cel (w6.dr d),zC.2 ?_⟩
   have k7:=Keep.new (fun _=>False) (w6.dr d) (.cells (celV x.cel) 86)
   have h7c:=Has.new (w6.dr d) (.cells (celV x.cel) 86)
   generalize hw7:(w6.dr d).alloc (.cells (celV x.cel) 86)=w7 at *
   have k57:=k66.trans k7
   have h7:=h5.keep0 k57
   have hb7:=k7.has (hb6.dr d) (by simp)
   have hs7:=k7.has (hs6.dr d) (by simp)
   have hsl7:=hsl5.keepB k57 (by simp)
   refine ⟨⟨hb7,hs7,hsl7⟩,?_⟩
   have hda7:=hda.keep k7 (by simp) (by simp)
   refine d_Write hda7 h7.main (sl_c1 h7c) (by rw [hdl];exact hxok.2) fun w8 hd8 hm8 k8=>?_
   have hDg:s5.ds.getD x.plc.dk.toNat dsk0=D:=by rw [List.getD_eq_getElem?_getD,hD];rfl
   have h8:SetAt w8 q (apply1 s5 x ep).2:=by
    have:=h7.upd hbk (k8.mono fun k hk=>by rcases hk with e | e;exact Or.inl e;exact Or.inr (Or.inr e)) hd8 (by rw [writeD_len];exact hdl) hm8
    unfold apply1
    rw [hDg]
    exact this
   have kf:Keep (SFoot q) w7 w8:=k8.mono fun k hk=>by
    rcases hk with e | e
    ·exact Or.inl e
    ·exact Or.inr (Or.inr (by rw [e];exact List.mem_map.2 ⟨(b,r),List.mem_of_getElem? hbk,rfl⟩))
   have kF:Keep (SFoot q) w w8:=(k5.trans (k57.mono fun _ h=>h.elim)).trans kf
   have hb8:=kf.has hb7 (h7.typ hb7 (by decide) (by decide) (by decide))
   have hs8:=kf.has hs7 (h7.typ hs7 (by decide) (by decide) (by decide))
   have hsl8:SlL dLay w8 p l (q.bks.map Prod.fst):=hsl.keep kF hpf
   refine T2_mk.2 (zA.2 (zA.2 ⟨⟨hb8,hs8,hsl8⟩,trivial,trivial,?_⟩))
   have ee:(writeD s5.pw D x.plc.at_ x.cel ep).1.2=(apply1 s5 x ep).1:=by unfold apply1;rw [hDg]
   rw [ee]
   have ed:xs.drop j=x::xs.drop (j+1):=by
    rw [List.drop_eq_getElem_cons (by omega)]
    congr 1
    have:=List.getElem?_eq_getElem (l:=xs) (i:=j) (by omega)
    rw [hx] at this
    exact (Option.some.inj this).symm
   rw [ed] at he5
   have hst:applyL ep (x::xs.drop (j+1)) s5=if (apply1 s5 x ep).1≠0∧(apply1 s5 x ep).1≠5 then apply1 s5 x ep else applyL ep (xs.drop (j+1)) (apply1 s5 x ep).2:=rfl
   rw [hst] at he5
   refine Cb_of (fun hz=>?_) (fun hz=>?_)
   ·have hz:(apply1 s5 x ep).1≠0∧(apply1 s5 x ep).1≠5:=by simpa using hz
    rw [if_pos hz] at he5
    rw [← he5] at hK
    exact Ret_nil.2 (hK w8 h8 kF)
   ·have hz:¬ ((apply1 s5 x ep).1≠0∧(apply1 s5 x ep).1≠5):=by
     intro hh
     have:(cond ((apply1 s5 x ep).1 !=0) ((apply1 s5 x ep).1 !=5) false)=true:=by simp [hh.1,hh.2]
     rw [this] at hz
     cases hz
    rw [if_neg hz] at he5
    exact ⟨_,by show ((pl:Int)-IntKind.wrap .i64 ((j:Int)+1)).toNat<((pl:Int)-(j:Int)).toNat;rw [ek hc];omega,⟨j+1,_,ek hc,by omega,h8,he5,kF,hs8⟩,rfl⟩
  ·have hc:j=pl:=by
    have:¬ (j:Int)<(pl:Int):=by simpa using hc
    omega
   rw [List.drop_of_length_le (by omega)] at he5
   have he5:(0,s5)=applyL ep xs s:=he5
   rw [← he5] at hK
   exact Ret_nil.2 (hK w5 h5 k5)
end calls
def nul (at_:Int):Sct:=⟨⟨sec [],sumS at_ (sec [])⟩,true⟩
def nuls (n:Nat):List Sct:=(List.range n).map fun (k:Nat)=>nul (k:Int)
theorem nuls_succ (n:Nat):nuls (n+1)=nuls n++[nul (n:Int)]:=by unfold nuls;rw [List.range_succ,List.map_append];rfl
theorem len_nuls (n:Nat):(nuls n).length=n:=by simp [nuls]
def newD (n:Nat):Dsk:=⟨nuls n,0,false⟩
def half (t n:Nat):Dsk:=⟨nuls t++List.replicate (n-t) sct0,0,false⟩
theorem half_len {t n:Nat} (h:t≤n):(half t n).secs.length=n:=by
 show (nuls t++List.replicate (n-t) sct0).length=n
 rw [List.length_append,len_nuls,List.length_replicate];omega
theorem half_set {t n:Nat} (h:t<n):(half t n).secs.set t (nul (t:Int))=(half (t+1) n).secs:=by
 show (nuls t++List.replicate (n-t) sct0).set t (nul (t:Int))=nuls (t+1)++List.replicate (n-(t+1)) sct0
 rw [List.set_append_right _ _ (by rw [len_nuls];omega),len_nuls,Nat.sub_self,show n-t=(n-(t+1))+1 by omega,List.replicate_succ,List.set_cons_zero,nuls_succ,List.append_assoc]
 rfl
theorem half_all (n:Nat):half n n=newD n:=by unfold half newD;rw [Nat.sub_self,List.replicate_zero,List.append_nil]
def Lit0 (pw:Pow):Prop:=pw.on=true∧pw.left=0
theorem lit_step {p:Pow} (h:Lit0 p):(stepP p).1=true∧Lit0 (stepP p).2:=by
 unfold stepP
 rw [if_pos h.1,if_pos h.2]
 exact ⟨rfl,h.1,h.2⟩
def FillT (b4:Nat) (n:Int) (w:World) (K:World→Prop):Prop :=
 LoopC (σ:=Int×Unit) (fun _ s2 w K2=>Cb (decide (s2.1<n)) (DoQ Tryz.prog (Instr.build 37 #[]) (At w) fun v10=>OpA 16 v10 fun cs5=>zB Tryz.prog 116
 #[.int .i64 s2.1,.agg cs5] w fun v11 w=>OpA 17 v11 fun cs6=>DoV Tryz.prog (Instr.buildSlice 167 1 #[(0,.agg cs6)]) w fun v12 w=>OpS v12 fun p l c=>zB Tryz.prog
 120 #[.pointer (some ⟨b4,0,none⟩),.int .i64 s2.1,.slice p l c,.int .u32 0] w fun v13 w=>T2 v13 fun v14 v15=>OpI .i64 v14 fun n4=>OpI .i64 v15 fun n5=>K2
 (IntKind.wrap .i64 (s2.1+1),()) w) (K w)) (0,()) w
section calls
variable {w:World} {R:Value→World→Prop}
theorem fillT {o b r n:Nat} {pw:Pow} (hd:DiskAt w o b r (half 0 n)) (hm:MaAt w o pw) (hl:Lit0 pw) (hn:n≤1024) {K:World→Prop} (hK:∀ w' pw',DiskAt w' o b r (newD n)→MaAt w' o pw'→Lit0 pw'→Keep (fun k=>k=o∨k=r) w w'→K w'):FillT b (n:Int) w K:=by
 unfold FillT
 refine LoopC_of (σ:=Int×Unit) (fun st w'=>∃ (t:Nat) (p:Pow),st.1=(t:Int)∧t≤n∧DiskAt w' o b r (half t n)∧MaAt w' o p∧Lit0 p∧Keep (fun k=>k=o∨k=r) w w') (fun st _=>(n-st.1).toNat) ⟨0,pw,rfl,by omega,hd,hm,hl,Keep.refl _ _⟩ ?_
 rintro _ ⟨t,u⟩ w1 ⟨t',p,ht,htn,hd1,hm1,hl1,k1⟩
 simp only at ht ⊢
 subst ht
 refine Cb_of (fun hc=>?_) (fun hc=>?_)
 ·have hc:t'<n:=by
   have:(t':Int)<(n:Int):=by simpa using hc
   omega
  refine DoQ_of (fun d=>bld_sec0 _) (OpA_agg.2 ⟨rfl,?_⟩)
  refine s_Seal fun w2 k2=>?_
  refine OpA_agg.2 ⟨rfl,?_⟩
  refine ⟨_,_,bsl_c1 _ w2,zC.2 ?_⟩
  have k3:=Keep.new (fun _=>False) w2 (.cells (celV ⟨sec [],sumS (t':Int) (sec [])⟩) 86)
  have h3:=Has.new w2 (.cells (celV ⟨sec [],sumS (t':Int) (sec [])⟩) 86)
  generalize w2.alloc (.cells (celV ⟨sec [],sumS (t':Int) (sec [])⟩) 86)=w3 at *
  have k13:=k2.trans k3
  have hd3:=hd1.keep k13 (by simp) (by simp)
  have hm3:MaAt w3 o p:=k13.has hm1 (by simp)
  refine d_Write hd3 hm3 (sl_c1 h3) (by rw [half_len htn];omega) fun w4 hd4 hm4 k4=>?_
  obtain ⟨hs,hl2⟩:=lit_step hl1
  have e:writeD p (half t' n) (t':Int) ⟨sec [],sumS (t':Int) (sec [])⟩ 0=((1,0),(stepP p).2,half (t'+1) n):=by
   unfold writeD
   rw [if_neg (by simp [hl1.1]),if_neg (by show ¬ false=true;simp),if_neg (by show ¬ (0:Int)<0;omega),if_neg (by rw [hs];simp),Int.toNat_natCast]
   have:=half_set hc
   unfold nul at this
   rw [this]
   rfl
  rw [e] at hd4 hm4 ⊢
  refine T2_mk.2 (zA.2 (zA.2 ?_))
  have e3:IntKind.wrap .i64 ((t':Int)+1)=((t'+1:Nat):Int):=by rw [wrapI (by omega) (by omega)];omega
  exact ⟨_,by show ((n:Int)-IntKind.wrap .i64 ((t':Int)+1)).toNat<((n:Int)-(t':Int)).toNat;rw [e3];omega,⟨t'+1,_,e3,by omega,hd4,hm4,hl2,(k1.trans (k13.mono fun _ h=>h.elim)).trans k4⟩,rfl⟩
 ·have hc:t'=n:=by
   have:¬ (t':Int)<(n:Int):=by simpa using hc
   omega
  subst hc
  rw [half_all] at hd1
  exact hK w1 p hd1 hm1 hl1 k1
theorem dLayT:LayT Tryz.prog dLay 49 111 8:=⟨by kernel_rfl,⟨(Tryz.prog.info? 111).get (by kernel_rfl),((Tryz.prog.info? 111).get (by kernel_rfl)).zero.get (by kernel_rfl),by kernel_rfl,by kernel_rfl,by kernel_rfl,by kernel_rfl,by kernel_rfl⟩⟩
theorem bsl_d1 (b:Nat) (w:World):(Instr.buildSlice 49 1 #[(0,.pointer (some ⟨b,0,none⟩))]).run Tryz.prog w=.ok (.slice (some ⟨w.heap.size,0,none⟩) 1 1) (w.alloc (.cells #[.pointer (some ⟨b,0,none⟩)] 111)) :=
 run_buildSlice w 49 111 1 _ #[.pointer (some ⟨b,0,none⟩)] ((Tryz.prog.info? 111).get (by kernel_rfl)) (((Tryz.prog.info? 111).get (by kernel_rfl)).zero.get (by kernel_rfl)) (by kernel_rfl) (by kernel_rfl) (by kernel_rfl) (by decide +kernel) (by decide +kernel) (by kernel_rfl)
def SB.from_ (q:SB) (n:Nat):Prop:=∀ br∈q.bks,n≤br.1∧n≤br.2
structure NewI (w w':World) (m o b b1 b2 n k:Nat) (g:Geo) (p:Option Addr) (c:Nat) (bks:List (Nat×Nat)) (pw:Pow):Prop where
 len:bks.length=k
 own:MaAt w' o pw
 lit:Lit0 pw
 geo:Has w' b (.cells (geoV g) 24 (0,0))
 res:∃ cs,cs.size=4∧Has w' b1 (.cells cs 51 (0,0))
 set:Has w' b2 (.cells (setV g p k c) 51 (0,0))
 row:OwnL dLay w' (w.heap.size) 111 p k c (bks.map Prod.fst)
 dsk:∀ br∈bks,DiskAt w' m br.1 br.2 (newD n)
 low:∀ br∈bks,w.heap.size≤br.1∧w.heap.size≤br.2
 nodb:(bks.map Prod.fst).Nodup
 nodr:(bks.map Prod.snd).Nodup
 keep:Keep (fun _=>False) w w'
theorem st_New {g:Geo} {m:Nat} {pw:Pow} (hg:GeoOk g) (hm:MaAt w m pw)
  (hK:∀ p c bks w',SetAt w' ⟨m,g,bks⟩ ⟨List.replicate g.d.toNat (newD (g.c*g.s).toNat),pw⟩→OwnL dLay w' w.heap.size 111 p g.d.toNat c (bks.map Prod.fst)→(SB.mk m g bks).from_ w.heap.size→Keep (fun _=>False) w w'→R (.tuple #[.agg (setV g p g.d.toNat c),.int .i64 0]) w') :
  zB Tryz.prog 53 #[.agg (geoV g),.pointer (some ⟨m,0,none⟩)] w R:=by
 apply C_stripe_New
 unfold F_stripe_New
 have hsz:=hg.size
 have hgd:=hg.d
 refine alc_fresh fun w1 hb1 k1 z1=>?_
 refine alc_fresh fun w2 hb2 k2 z2=>?_
 have hz4:(zc Tryz.prog 51)=setV ⟨0,0,0⟩ none 0 0:=by kernel_rfl
 rw [hz4] at hb2
 have hb12:=k2.has hb1 (by simp)
 refine LdA_all hb12 rfl ?_
 refine l_Size hg fun w3 k3=>?_
 refine T2_mk.2 (zA.2 (zA.2 ((Cb_false (p:=_)).2 ?_)))
 have hg3:=k3.has hb12 (by simp)
 have hr3:=k3.has hb2 (by simp)
 refine LdA_all hg3 rfl ?_
 refine DoQ_of (v:=.agg (setV g none 0 0)) (fun d=>run_build _ _ _ _ (by kernel_rfl)) (OpA_agg.2 ⟨rfl,?_⟩)
 refine copy_of (by rw [hz4];rfl) rfl (one_setV g none 0 0) fun w4 hb4 k4 z4=>?_
 refine ma_New fun o w5 ho hmo k5 z5=>?_
 refine OpN_some.2 ?_
 have k04:=((k1.trans k2).trans k3).trans k4
 have k05:=k04.trans k5
 have hg5:=(k4.trans k5).has hg3 (by simp)
 have hr5:=(k4.trans k5).has hr3 (by simp)
 have hs5:=k5.has hb4 (by simp)
 have hgl:=hg3.lt
 have hrl:=hr3.lt
 have hwl:w.heap.size≤w1.heap.size:=by omega
 have hs3:w1.heap.size≤w3.heap.size:=(k2.trans k3).size
 generalize hb2e:w3.heap.size=b2 at *
 generalize hb1e:w1.heap.size=b1 at *
 generalize hbe:w.heap.size=b at *
 refine LdV_has (v:=.int .i64 g.d) hg5 rfl (zA.2 ?_)
 obtain ⟨n,hn⟩:∃ n:Nat,g.c*g.s=(n:Int):=⟨(g.c*g.s).toNat,by omega⟩
 have hn':(g.c*g.s).toNat=n:=by omega
 rw [hn'] at hK
 rw [hn]
 rw [hn] at hsz
 refine LoopC_of (σ:=Int×Unit) (fun st w'=>∃ (k:Nat) (p:Option Addr) (c:Nat) (bks:List (Nat×Nat)) (pwo:Pow),st.1=(k:Int)∧(k:Int)≤g.d∧NewI w w' m o b b1 b2 n k g p c bks pwo) (fun st _=>(g.d-st.1).toNat)
  ⟨0,none,0,[],_,rfl,by omega,⟨rfl,hmo,⟨rfl,rfl⟩,hg5,⟨_,rfl,hr5⟩,hs5,OwnL.nil,by simp,by simp,by simp,by simp,k05⟩⟩ ?_
 rintro _ ⟨i,u⟩ w6 ⟨k,p,c,bks,pwo,hi,hk,hI⟩
 simp only at hi ⊢
 subst hi
 refine Cb_of (fun hc=>?_) (fun hc=>?_)
 ·have hc:(k:Int)<g.d:=by simpa using hc
  refine d_New (n:=n) (by omega) (by omega) fun b4 r4 w7 hd7 k7 hb47 hr47=>?_
  refine T2_mk.2 (OpN_some.2 (zA.2 ?_))
  have hm7:MaAt w7 o pwo:=k7.has hI.own (by simp)
  have hd7:DiskAt w7 o b4 r4 (half 0 n):=hd7
  have ne_of:∀ {x y:Nat} {cs cs':Array Value} {t t':TypeId} {W:World},Has W x (.cells cs t (0,0))→Has W y (.cells cs' t' (0,0))→t≠t'→x≠y:=fun h1 h2 ht=>h1.ne h2 (by simp only [ne_eq,Obj.cells.injEq];intro e;exact ht e.2.1)
  refine fillT hd7 hm7 hI.lit (by omega) fun w8 pw8 hd8 hm8 hl8 k8=>?_
  have hlt6:∀ {x:Nat} {ob:Obj},Has w6 x ob→x<w6.heap.size:=fun h=>h.lt
  have st:∀ {x:Nat} {cs:Array Value} {t:TypeId},Has w6 x (.cells cs t (0,0))→t≠209→Has w8 x (.cells cs t (0,0)):=by
   intro x cs t hx ht
   refine k8.has (k7.has hx (by simp)) ?_
   rintro (e | e)
   ·exact ne_of hx (show Has w6 o _ from hI.own) ht e
   ·have:=hlt6 hx;omega
  have k68:Keep (fun k=>k=o∨k=r4) w6 w8:=(k7.mono fun _ h=>h.elim).trans k8
  have hrow8:OwnL dLay w8 b 111 p k c (bks.map Prod.fst):=by
   have:=hI.row
   rw [hbe] at this
   refine this.keep k68 fun x hx=>?_
   rcases Own.cases this with ⟨h0,_⟩ | ⟨b',cur,h0,_,hg',_⟩
   ·rw [h0] at hx;cases hx
   ·rw [h0] at hx;cases hx
    rintro (e | e)
    ·exact ne_of hg' (show Has w6 o _ from hI.own) (by decide) e
    ·have:=hlt6 hg';omega
  have hdsk8:∀ br∈bks,DiskAt w8 m br.1 br.2 (newD n):=fun br hbr=>by
   have h6:=hI.dsk br hbr
   obtain ⟨cs,hcs⟩:=h6.rcells
   refine h6.keep k68 ?_ ?_
   ·rintro (e | e)
    ·exact ne_of h6.cells (show Has w6 o _ from hI.own) (by decide) e
    ·have:=hlt6 h6.cells;omega
   ·rintro (e | e)
    ·exact ne_of hcs (show Has w6 o _ from hI.own) (by decide) e
    ·have:=hlt6 hcs;omega
  have hset8:=st hI.set (by decide)
  have hgeo8:=st hI.geo (by decide)
  obtain ⟨cs1,hcs1,hres⟩:=hI.res
  have hres8:=st hres (by decide)
  have hob:o≠b4:=ne_of (show Has w8 o _ from hm8) hd8.cells (by decide)
  have hz6:=k7.size
  intro dd
  refine ⟨fun w'=>Has w' b2 (.cells (setV g p k c) 51 (0,0)),hset8.dr dd,?_⟩
  refine LdV_of (v:=.slice p k c) (fun w' hw=>⟨_,_,_,hw,rfl⟩) (zC.2 ?_)
  have kd:=Keep.drew (fun _=>False) w8 dd
  refine d_On (hd8.keep kd (by simp) (by simp)) (m2:=m) fun w9 hd9 k9=>?_
  have hx9:∀ {x:Nat} {cs:Array Value} {t:TypeId},Has w8 x (.cells cs t (0,0))→t≠220→Has w9 x (.cells cs t (0,0)):=fun hx ht=>k9.has (hx.dr dd) (ne_of hx hd8.cells ht)
  have hset9:=hx9 hset8 (by decide)
  refine OpN_some.2 ⟨hset9,?_⟩
  refine ⟨_,_,bsl_d1 b4 w9,zC.2 ?_⟩
  have k10:=Keep.new (fun _=>False) w9 (.cells #[.pointer (some ⟨b4,0,none⟩)] 111)
  have h10:=Has.new w9 (.cells #[.pointer (some ⟨b4,0,none⟩)] 111)
  generalize w9.alloc (.cells #[.pointer (some ⟨b4,0,none⟩)] 111)=w10 at *
  have hset10:=k10.has hset9 (by simp)
  refine ⟨hset10,?_⟩
  have hrow9:OwnL dLay w9 b 111 p k c (bks.map Prod.fst):=by
   refine (hrow8.keep kd (by simp)).keep k9 fun x hx=>?_
   rcases Own.cases hrow8 with ⟨h0,_⟩ | ⟨b',cur,h0,_,hg',_⟩
   ·rw [h0] at hx;cases hx
   ·rw [h0] at hx;cases hx
    exact ne_of hg' hd8.cells (by decide)
  have hw10:b≤w10.heap.size:=by
   have h1:=hI.keep.size
   have h2:=k68.size
   have h3:=k9.size
   have h4:=k10.size
   have h3':w8.heap.size≤w9.heap.size:=h3
   omega
  obtain ⟨p11,c11,w11,hr11,o11,k11,hp11⟩:=run_appendF1 dLayT (hrow9.keep k10 (by simp)) (y:=b4) h10 rfl (ty:=49) (by omega) (by simp only [maxLen];omega) hw10 (c2:=1)
  have hx11:∀ {x:Nat} {cs:Array Value} {t:TypeId},Has w8 x (.cells cs t (0,0))→t≠220→t≠111→Has w11 x (.cells cs t (0,0)):=fun {x cs t} hx h1 h2=>by
   have h10:=k10.has (hx9 hx h1) (by simp)
   refine k11.has h10 fun e=>?_
   rcases Own.cases (hrow9.keep k10 (by simp)) with ⟨h0,_⟩ | ⟨b',cur,h0,_,hg',_⟩
   ·rw [h0] at e;cases e
   ·rw [h0] at e;cases e
    exact ne_of h10 hg' h2 rfl
  have hset11:=hx11 hset8 (by decide) (by decide)
  refine ⟨_,_,hr11,zC.2 ⟨hset11,?_⟩⟩
  refine StV_of hset11 (by show 3<4;decide) rfl ?_
  have hset12:=hset11.upd_same (.cells (setV g p11 (k+1) c11) 51 (0,0))
  have ek:IntKind.wrap .i64 ((k:Int)+1)=((k+1:Nat):Int):=by rw [wrapI (by omega) (by omega)];omega
  refine ⟨_,by show (g.d-IntKind.wrap .i64 ((k:Int)+1)).toNat<(g.d-(k:Int)).toNat;rw [ek];omega,⟨k+1,p11,c11,bks++[(b4,r4)],pw8,ek,by omega,?_⟩,rfl⟩
  have kset:∀ {x:Nat} {cs:Array Value} {t:TypeId},Has w11 x (.cells cs t (0,0))→x≠b2→Has (w11.upd b2 (.cells (setV g p11 (k+1) c11) 51 (0,0))) x (.cells cs t (0,0)):=fun hx hn=>hx.upd hn
  have k12:=Keep.one w11 b2 (.cells (setV g p11 (k+1) c11) 51 (0,0))
  have rowk:∀ {x:Nat} {cs:Array Value},Has w11 x (.cells cs 111 (0,0))→x≠b2:=fun hx=>ne_of hx hset11 (by decide)
  have dk11:∀ {x y:Nat} {D:Dsk} {mm:Nat},DiskAt w9 mm x y D→DiskAt (w11.upd b2 (.cells (setV g p11 (k+1) c11) 51 (0,0))) mm x y D:=fun {x y D mm} hD=>by
   have h10:=hD.keep k10 (by simp) (by simp)
   have h11:DiskAt w11 mm x y D:=by
    obtain ⟨cs,hcs⟩:=h10.rcells
    refine h10.keep k11 (fun e=>?_) (fun e=>?_)
    ·rcases Own.cases (hrow9.keep k10 (by simp)) with ⟨h0,_⟩ | ⟨b',cur,h0,_,hg',_⟩
     ·rw [h0] at e;cases e
     ·rw [h0] at e;cases e
      exact ne_of h10.cells hg' (by decide) rfl
    ·rcases Own.cases (hrow9.keep k10 (by simp)) with ⟨h0,_⟩ | ⟨b',cur,h0,_,hg',_⟩
     ·rw [h0] at e;cases e
     ·rw [h0] at e;cases e
      exact ne_of hcs hg' (by decide) rfl
   obtain ⟨cs,hcs⟩:=h11.rcells
   exact h11.keep k12 (ne_of h11.cells hset11 (by decide)) (ne_of hcs hset11 (by decide))
  have nb:∀ br∈bks,br.1≠b4∧br.2≠r4:=fun br hbr=>by
   have h6:=hI.dsk br hbr
   obtain ⟨cs,hcs⟩:=h6.rcells
   have:=hlt6 h6.cells
   have:=hlt6 hcs
   omega
  have hw6:w.heap.size≤w6.heap.size:=hI.keep.size
  refine ⟨by simp [hI.len],?_,hl8,?_,⟨cs1,hcs1,?_⟩,hset12,?_,?_,?_,?_,?_,?_⟩
  ·exact (hx11 (show Has w8 o _ from hm8) (by decide) (by decide)).upd (ne_of (hx11 (show Has w8 o _ from hm8) (by decide) (by decide)) hset11 (by decide))
  ·exact (hx11 hgeo8 (by decide) (by decide)).upd (ne_of (hx11 hgeo8 (by decide) (by decide)) hset11 (by decide))
  ·refine (hx11 hres8 (by decide) (by decide)).upd ?_
   omega
  ·have e:(bks++[(b4,r4)]).map Prod.fst=bks.map Prod.fst++[b4]:=by simp
   rw [e,hbe]
   refine o11.keep k12 fun x hx=>?_
   rcases Own.cases o11 with ⟨h0,_⟩ | ⟨b',cur,h0,_,hg',_⟩
   ·rw [h0] at hx;cases hx
   ·rw [h0] at hx;cases hx
    exact rowk hg'
  ·intro br hbr
   rcases List.mem_append.1 hbr with hbr | hbr
   ·have h8:=hdsk8 br hbr
    obtain ⟨cs,hcs⟩:=h8.rcells
    exact dk11 ((h8.keep kd (by simp) (by simp)).keep k9 (nb br hbr).1 (ne_of hcs hd8.cells (by decide)))
   ·rw [List.mem_singleton.1 hbr]
    exact dk11 hd9
  ·intro br hbr
   rcases List.mem_append.1 hbr with hbr | hbr
   ·exact hI.low br hbr
   ·rw [List.mem_singleton.1 hbr]
    exact ⟨Nat.le_trans hw6 hb47,Nat.le_trans hw6 hr47⟩
  ·have e:(bks++[(b4,r4)]).map Prod.fst=bks.map Prod.fst++[b4]:=by simp
   rw [e,List.nodup_append]
   refine ⟨hI.nodb,by simp,fun x hx y hy=>?_⟩
   obtain ⟨br,hbr,rfl⟩:=List.mem_map.1 hx
   rw [List.mem_singleton.1 hy]
   exact (nb br hbr).1
  ·have e:(bks++[(b4,r4)]).map Prod.snd=bks.map Prod.snd++[r4]:=by simp
   rw [e,List.nodup_append]
   refine ⟨hI.nodr,by simp,fun x hx y hy=>?_⟩
   obtain ⟨br,hbr,rfl⟩:=List.mem_map.1 hx
   rw [List.mem_singleton.1 hy]
   exact (nb br hbr).2
  ·have a1:Keep (fun _=>False) w w8:=hI.keep.trans' k68 fun x hx hh=>by
    rcases hh with e | e
    ·rw [e,ho] at hx
     have:=k04.size
     omega
    ·omega
   have a2:Keep (fun _=>False) w w9:=(a1.dr dd).trans' k9 fun x hx e=>by omega
   have a3:Keep (fun _=>False) w w11:=(a2.trans k10).trans' k11 fun x hx e=>by
    have:=(hrow9.lt e).1
    rw [hbe] at hx
    omega
   exact a3.upd (by rw [hbe];omega) _
 ·have hc:(k:Int)=g.d:=by
   have:¬ (k:Int)<g.d:=by simpa using hc
   omega
  have ek:g.d.toNat=k:=by omega
  rw [ek] at hK
  obtain ⟨cs1,hcs1,hres⟩:=hI.res
  refine LdA_all hI.set rfl ?_
  refine StA_all hres rfl hcs1 (one_setV g p k c) ?_
  refine LdA_all (hres.upd_same _) rfl ?_
  have kf:=Keep.one w6 b1 (.cells (setV g p k c) 51 (0,0))
  have ne_of:∀ {x y:Nat} {cs cs':Array Value} {t t':TypeId} {W:World},Has W x (.cells cs t (0,0))→Has W y (.cells cs' t' (0,0))→t≠t'→x≠y:=fun h1 h2 ht=>h1.ne h2 (by simp only [ne_eq,Obj.cells.injEq];intro e;exact ht e.2.1)
  have hm6:MaAt w6 m pw:=hI.keep.has hm (by simp)
  refine Ret_nil.2 (hK p c bks _ ⟨?_,hg,?_,?_,?_,hI.nodb,hI.nodr⟩ ?_ ?_ ?_)
  ·exact kf.has (show Has w6 m _ from hm6) (ne_of (show Has w6 m _ from hm6) hres (by decide))
  ·show bks.length=(List.replicate k (newD n)).length
   rw [hI.len,List.length_replicate]
  ·show ((List.replicate k (newD n)).length:Int)=g.d
   rw [List.length_replicate,hc]
  ·intro i br D hb' hD
   have hb':bks[i]? = some br:=hb'
   have hD:(List.replicate k (newD n))[i]? = some D:=hD
   have hDe:D=newD n:=by
    rw [List.getElem?_replicate] at hD
    split at hD
    ·exact (Option.some.inj hD).symm
    ·cases hD
   subst hDe
   have h6:=hI.dsk br (List.mem_of_getElem? hb')
   obtain ⟨cs,hcs⟩:=h6.rcells
   refine ⟨h6.keep kf (ne_of h6.cells hres (by decide)) (ne_of hcs hres (by decide)),?_⟩
   show ((nuls n).length:Int)=g.c*g.s
   rw [len_nuls,hn]
  ·have:=hI.row
   rw [hbe] at this
   refine this.keep kf fun x hx=>?_
   rcases Own.cases this with ⟨h0,_⟩ | ⟨b',cur,h0,_,hg',_⟩
   ·rw [h0] at hx;cases hx
   ·rw [h0] at hx;cases hx
    exact ne_of hg' hres (by decide)
  ·intro br hbr
   have:=hI.low br hbr
   rw [hbe] at this
   exact this
  ·exact hI.keep.upd (by rw [hbe];omega) _
end calls
def CelOk (c:Cel):Prop:=SecOk c.data∧0≤c.sum∧c.sum≤4294967295
theorem celV_inj {a b:Cel} (h:celV a=celV b):a=b:=by
 have h:celL a=celL b:=by simpa [celV] using h
 have h1:=List.append_inj h rfl
 have h2:=secV_inj (Array.ext' h1.1)
 have h3:a.sum=b.sum:=by simpa using h1.2
 cases a;cases b;simp_all
theorem Fits.app:∀ {ks ls:List CK} {vs us:List Value},Fits ks vs→Fits ls us→Fits (ks++ls) (vs++us)
 | [],_,[],_,_,h=>h
 | _::_,_,_::_,_,h1,h2=>⟨h1.1,Fits.app h1.2 h2⟩
 | [],_,_::_,_,h1,_=>h1.elim
 | _::_,_,[],_,h1,_=>h1.elim
theorem fits_celV {c:Cel} (h:CelOk c):Fits (List.replicate 16 (.int .u8)++[.int .u32]) (celV c).toList:=by
 have:(celV c).toList=(secV c.data).toList++[.int .u32 c.sum]:=by simp [celV,celL]
 rw [this]
 exact Fits.app (fits_secV h.1) ⟨⟨_,rfl,h.2.1,h.2.2⟩,trivial⟩
theorem EqB_cel {x y:Operand} {a b:Cel} {C:World→Prop} {K:Bool→Prop} (ha:CelOk a) (hb:CelOk b) (hK:∀ r:Bool,(r=true ↔ a=b)→K r) :
  EqB Tryz.prog .eql 86 x y (.agg (celV a)) (.agg (celV b)) C K :=
 EqB_flat (ks:=List.replicate 16 (.int .u8)++[.int .u32]) (by kernel_rfl) (by kernel_rfl) (by kernel_rfl) (by kernel_rfl) (by kernel_rfl) (fits_celV ha) (fits_celV hb)
  fun r hr=>hK r (hr.trans ⟨celV_inj,fun e=>by rw [e]⟩)
theorem crcS_ok (l:List Int):0≤crcS l∧crcS l≤4294967295:=by
 unfold crcS
 generalize foldS (ibits .xor .u32 allS 0) l=x
 generalize allS=y
 have h:=(BitVec.ofInt 32 y ^^^ BitVec.ofInt 32 x).isLt
 have e:ibits .xor .u32 y x=((BitVec.ofInt 32 y ^^^ BitVec.ofInt 32 x).toNat:Int):=by
  show IntKind.wrap .u32 ((BitVec.ofInt 32 y ^^^ BitVec.ofInt 32 x).toNat:Int)=_
  exact wrapU32 (by omega) (by omega)
 rw [e]
 omega
theorem sumS_ok (at_:Int) (d:Sec):0≤sumS at_ d∧sumS at_ d≤4294967295:=crcS_ok _
theorem ext_cel (c:Cel):(celV c).extract 0 (0+16)=secV c.data:=by
 apply Array.ext'
 unfold celV celL
 simp only [Array.toList_extract,List.extract_eq_take_drop,List.drop_zero]
 exact List.take_left' rfl
theorem ext_cel' (c:Cel):(celV c).extract 0 17=celV c:=by
 apply Array.ext'
 unfold celV celL
 simp only [Array.toList_extract,List.extract_eq_take_drop,List.drop_zero]
 exact List.take_of_length_le (Nat.le_refl 17)
theorem run_max (k:IntKind) (a b:Int) (t:TypeId) (ts:Array TypeId) (w:World):(Builtin.max_ ts t #[.int k a,.int k b]).run Tryz.prog w=.ok (.int k (max a b)) w:=by
 simp only [Builtin.max_,List.foldlM,Builtin.max2,Sem.run_bind,Sem.run_pure,if_true]
 by_cases h:a<b
 ·simp [h,Sem.run_pure,Int.max_eq_right (Int.le_of_lt h)]
 ·simp [h,Sem.run_pure,Int.max_eq_left (Int.not_lt.1 h)]
section good
variable {w:World} {R:Value→World→Prop}
theorem s_Good {at_:Int} {c:Cel} (hc:CelOk c) (hK:∀ w',Keep (fun _=>False) w w'→R (.bool (decide (c.sum=sumS at_ c.data))) w'):zB Tryz.prog 176 #[.int .i64 at_,.agg (celV c)] w R:=by
 apply C_sum_Good
 unfold F_sum_Good
 refine alc_fresh fun w1 hb k1 z1=>?_
 intro d
 refine ⟨fun w'=>Has w' w.heap.size (.cells (celV c) 86 (0,0)),hb.dr d,?_⟩
 refine LdA_has (cs:=secV c.data) (hb.dr d) (by show 0+16≤17;decide) (ext_cel c) ?_
 refine LdA_of (cs:=celV c) rfl (fun w' hw=>⟨_,_,_,hw,by show 0+17≤17;decide,ext_cel' c⟩) ?_
 refine s_Seal fun w2 k2=>OpA_agg.2 ⟨rfl,?_⟩
 refine ⟨k2.has (hb.dr d) (by simp),?_⟩
 refine EqB_cel ⟨hc.1,sumS_ok _ _⟩ hc fun r hr=>Ret_nil.2 ?_
 have e:r=decide (c.sum=sumS at_ c.data):=by
  have:(Cel.mk c.data (sumS at_ c.data)=c) ↔ (c.sum=sumS at_ c.data):=by
   cases c
   simp [eq_comm]
  rw [this] at hr
  cases r with
  | true=>rw [decide_eq_true (hr.1 rfl)]
  | false=>rw [decide_eq_false (fun h=>by have:=hr.2 h;cases this)]
 rw [e]
 exact hK w2 ((k1.dr d).trans k2)
end good
section disk
variable {w:World} {m b r:Nat} {D:Dsk} {R:Value→World→Prop}
theorem d_Key (h:DiskAt w m b r D) (hK:R (.int .u32 D.key) w):zB Tryz.prog 125 #[.pointer (some ⟨b,0,none⟩)] w R:=by
 apply C_disk_Disk_Key
 unfold F_disk_Disk_Key
 exact LdV_has (v:=.int .u32 D.key) h.cells rfl (zA.2 (Ret_nil.2 hK))
theorem d_Alive (h:DiskAt w m b r D) (hK:R (.bool (!D.dead)) w):zB Tryz.prog 87 #[.pointer (some ⟨b,0,none⟩)] w R:=by
 apply C_disk_Disk_Alive
 unfold F_disk_Disk_Alive
 exact LdV_has (v:=.bool D.dead) h.cells rfl (OpB_bool.2 (Ret_nil.2 hK))
theorem DiskAt.cel (h:DiskAt w m b r D) {D':Dsk} (hs:D'.secs=D.secs):DiskAt (w.upd b (.cells (diskC m r D') 220 (0,0))) m b r D':=by
 refine ⟨h.cells.upd_same _,?_⟩
 rw [hs]
 exact h.row.keep (Keep.one w b _) fun k hk e=>by
  subst e
  injection hk with hk
  injection hk with hk
  exact h.ne hk.symm
def fenceD (pw:Pow) (D:Dsk) (ep:Int):Int×Dsk :=
 if pw.on=false then (4,D) else if D.dead=true then (5,D) else (0,{ D with key:=max D.key ep })
theorem d_Fence {pw:Pow} (h:DiskAt w m b r D) (hm:MaAt w m pw) {ep:Int} (hk:0≤D.key∧D.key≤4294967295) (hep:0≤ep∧ep≤4294967295) (hK:∀ w',DiskAt w' m b r (fenceD pw D ep).2→Keep (fun k=>k=b) w w'→R (.int .i64 (fenceD pw D ep).1) w') :
  zB Tryz.prog 123 #[.pointer (some ⟨b,0,none⟩),.int .u32 ep] w R:=by
 apply C_disk_Disk_Fence
 unfold F_disk_Disk_Fence
 unfold fenceD at hK
 refine LdV_has (v:=.pointer (some ⟨m,0,none⟩)) h.cells rfl (OpN_some.2 ?_)
 refine ma_On hm (OpB_bool.2 ?_)
 refine Cb_of (fun hc=>?_) (fun hc=>?_)
 ·have hc:pw.on=false:=by simpa using hc
  rw [if_pos hc] at hK
  exact Ret_nil.2 (hK w h (Keep.refl _ _))
 have hon:pw.on=true:=by simpa using hc
 rw [if_neg (by simp [hon])] at hK
 refine LdV_has (v:=.bool D.dead) h.cells rfl (OpB_bool.2 ?_)
 refine Cb_of (fun hd=>?_) (fun hd=>?_)
 ·rw [if_pos hd] at hK
  exact Ret_nil.2 (hK w h (Keep.refl _ _))
 have hd:D.dead=false:=hd
 rw [if_neg (by simp [hd])] at hK
 refine LdV_has (v:=.int .u32 D.key) h.cells rfl (zA.2 ?_)
 refine DoQ_of (v:=.int .u32 (max D.key ep)) (fun d=>?_) (zA.2 ?_)
 ·exact run_max _ _ _ _ _ _
 refine StV_of h.cells (by show 2<4;decide) rfl ?_
 exact Ret_nil.2 (hK _ (h.cel (D':={ D with key:=max D.key ep }) rfl) (Keep.one _ _ _))
end disk
def cellD (D:Dsk) (at_:Int):Option Sec :=
 if D.dead=true then none else if (D.secs.getD at_.toNat sct0).good=false then none
 else if (D.secs.getD at_.toNat sct0).cel.sum=sumS at_ (D.secs.getD at_.toNat sct0).cel.data then some (D.secs.getD at_.toNat sct0).cel.data else none
def cellV (pw:Pow) (C:Option Sec):Value :=
 if pw.on=false then .tuple #[.agg (secV (sec [])),.bool false,.int .i64 4]
 else .tuple #[.agg (secV (C.getD (sec []))),.bool C.isSome,.int .i64 0]
def CelT (b1 b2 b5:Nat) (n2:Int) (w:World) (R:Value→World→Prop):Prop :=
 Cb (n2==4) (DoQ Tryz.prog (Instr.build 37 #[]) (At w) fun v7=>OpA 16 v7 fun cs1=>StA 16 b2 0 cs1 w fun w=>LdA 16 b2 0 (At w) fun cs2=>Ret [] (R (.tuple #[.agg cs2,.bool false,.int .i64 n2]) w))
 (Cb (n2 !=0) (DoQ Tryz.prog (Instr.build 37 #[]) (At w) fun v8=>OpA 16 v8 fun cs3=>StA 16 b2 0 cs3 w fun w=>LdA 16 b2 0 (At w) fun cs4=>Ret [] (R (.tuple #[.agg cs4,.bool false,.int .i64 0]) w))
 (LdV b1 1 (At w) fun v9=>OpI .i64 v9 fun n3=>LdA 17 b5 0 (At w) fun cs5=>zB Tryz.prog 176 #[.int .i64 n3,.agg cs5] w fun v10 w=>OpB v10 fun g=>Cb (!g) (DoQ Tryz.prog (Instr.build 37 #[]) (At w) fun v11=>OpA 16 v11 fun cs6=>StA 16 b2 0 cs6 w fun w=>LdA 16 b2 0 (At w) fun cs7=>Ret [] (R (.tuple #[.agg cs7,.bool false,.int .i64 0]) w))
 (LdA 16 b5 0 (At w) fun cs8=>StA 16 b2 0 cs8 w fun w=>LdA 16 b2 0 (At w) fun cs9=>Ret [] (R (.tuple #[.agg cs9,.bool true,.int .i64 0]) w))))
theorem celT {w:World} {b1 b2 b5:Nat} {x:Plc} {c:Cel} {n:Int} {R:Value→World→Prop} {S:Nat→Prop} {w0:World} (k0:Keep S w0 w) (hS:S b2) (h1:Has w b1 (.cells (plcV x) 84 (0,0))) (h2:Has w b2 (.cells (secV (sec [])) 37 (0,0))) (h5:Has w b5 (.cells (celV c) 86 (0,0))) (hc:CelOk c)
  (hK:∀ w',Keep S w0 w'→R (if n=4 then .tuple #[.agg (secV (sec [])),.bool false,.int .i64 4] else if n≠0 then .tuple #[.agg (secV (sec [])),.bool false,.int .i64 0] else if c.sum=sumS x.at_ c.data then .tuple #[.agg (secV c.data),.bool true,.int .i64 0] else .tuple #[.agg (secV (sec [])),.bool false,.int .i64 0]) w'):CelT b1 b2 b5 n w R:=by
 unfold CelT
 have fin:∀ (f:Sec) (g:Bool) (e:Int) (w1:World),Has w1 b2 (.cells (secV (sec [])) 37 (0,0))→Keep S w0 w1→(∀ w',Keep S w0 w'→R (.tuple #[.agg (secV f),.bool g,.int .i64 e]) w')→StA 16 b2 0 (secV f) w1 fun w=>LdA 16 b2 0 (At w) fun cs2=>Ret [] (R (.tuple #[.agg cs2,.bool g,.int .i64 e]) w):=by
  intro f g e w1 hb k hr
  refine StA_all hb rfl rfl (one_secV f) ?_
  refine LdA_all (hb.upd_same _) rfl ?_
  exact Ret_nil.2 (hr _ (k.upd (fun _=>hS) _))
 have bad:∀ (e:Int) (w1:World),Has w1 b2 (.cells (secV (sec [])) 37 (0,0))→Keep S w0 w1→(∀ w',Keep S w0 w'→R (.tuple #[.agg (secV (sec [])),.bool false,.int .i64 e]) w')→DoQ Tryz.prog (Instr.build 37 #[]) (At w1) fun v7=>OpA 16 v7 fun cs1=>StA 16 b2 0 cs1 w1 fun w=>LdA 16 b2 0 (At w) fun cs2=>Ret [] (R (.tuple #[.agg cs2,.bool false,.int .i64 e]) w):=by
  intro e w1 hb k hr
  exact DoQ_of (fun d=>bld_sec0 _) (OpA_agg.2 ⟨rfl,fin _ _ _ _ hb k hr⟩)
 refine Cb_of (fun h=>?_) (fun h=>?_)
 ·have h:n=4:=by simpa using h
  rw [h]
  exact bad 4 w h2 k0 fun w' k=>by have:=hK w' k;rwa [if_pos h] at this
 have h4:n≠4:=by simpa using h
 refine Cb_of (fun h=>?_) (fun h=>?_)
 ·have h:n≠0:=by simpa using h
  exact bad 0 w h2 k0 fun w' k=>by have:=hK w' k;rwa [if_neg h4,if_pos h] at this
 have h0:n=0:=by simpa using h
 refine LdV_has (v:=.int .i64 x.at_) h1 rfl (zA.2 ?_)
 refine LdA_all h5 rfl ?_
 refine s_Good hc fun w1 k1=>OpB_bool.2 ?_
 have k01:=k0.trans (k1.mono fun _ h=>h.elim)
 have h21:=k1.has h2 (by simp)
 refine Cb_of (fun h=>?_) (fun h=>?_)
 ·have h:¬ c.sum=sumS x.at_ c.data:=by simpa using h
  exact bad 0 w1 h21 k01 fun w' k=>by have:=hK w' k;rwa [if_neg h4,if_neg (by simp [h0]),if_neg h] at this
 ·have h:c.sum=sumS x.at_ c.data:=by simpa using h
  refine LdA_has (cs:=secV c.data) (k1.has h5 (by simp)) (by show 0+16≤17;decide) (ext_cel c) ?_
  exact fin _ _ _ w1 h21 k01 fun w' k=>by have:=hK w' k;rwa [if_neg h4,if_neg (by simp [h0]),if_pos h] at this
theorem sec0_ok':SecOk (sec []):=sec_ok (by simp)
def DskOk (D:Dsk):Prop:=(∀ x∈D.secs,CelOk x.cel)∧0≤D.key∧D.key≤4294967295
theorem sct0_ok:CelOk sct0.cel:=⟨sec0_ok',by decide,by decide⟩
theorem DskOk.get {D:Dsk} (h:DskOk D) (i:Nat):CelOk (D.secs.getD i sct0).cel:=by
 rw [List.getD_eq_getElem?_getD]
 cases hx:D.secs[i]? with
 | none=>exact sct0_ok
 | some x=>exact h.1 x (List.mem_of_getElem? hx)
theorem readD_cell {pw:Pow} {D:Dsk} {at_:Int} (hin:0≤at_∧at_<(D.secs.length:Int)):(if (readD pw D at_).2=4 then Value.tuple #[.agg (secV (sec [])),.bool false,.int .i64 4] else if (readD pw D at_).2≠0 then .tuple #[.agg (secV (sec [])),.bool false,.int .i64 0] else if (readD pw D at_).1.sum=sumS at_ (readD pw D at_).1.data then .tuple #[.agg (secV (readD pw D at_).1.data),.bool true,.int .i64 0] else .tuple #[.agg (secV (sec [])),.bool false,.int .i64 0])=cellV pw (cellD D at_):=by
 have hn:¬ ¬ (0≤at_∧at_<(D.secs.length:Int)):=by simpa using hin
 unfold cellV cellD
 by_cases hp:pw.on=false
 ·have hr:readD pw D at_=(cel0,4):=by unfold readD;rw [if_neg hn,if_pos hp]
  rw [hr,if_pos hp,if_pos rfl]
 ·rw [if_neg hp]
  by_cases hd:D.dead=true
  ·have hr:readD pw D at_=(cel0,5):=by unfold readD;rw [if_neg hn,if_neg hp,if_pos hd]
   rw [hr,if_pos hd,if_neg (by decide),if_pos (by decide)]
   rfl
  ·rw [if_neg hd]
   by_cases hg:(D.secs.getD at_.toNat sct0).good=false
   ·have hr:readD pw D at_=(cel0,7):=by unfold readD;rw [if_neg hn,if_neg hp,if_neg hd,if_pos hg]
    rw [hr,if_pos hg,if_neg (by decide),if_pos (by decide)]
    rfl
   ·have hr:readD pw D at_=((D.secs.getD at_.toNat sct0).cel,0):=by unfold readD;rw [if_neg hn,if_neg hp,if_neg hd,if_neg hg]
    rw [hr,if_neg hg,if_neg (show ¬ (0:Int)=4 by decide),if_neg (show ¬ (0:Int)≠0 by decide)]
    by_cases hs:(D.secs.getD at_.toNat sct0).cel.sum=sumS at_ (D.secs.getD at_.toNat sct0).cel.data
    ·rw [if_pos hs,if_pos hs];rfl
    ·rw [if_neg hs,if_neg hs];rfl
theorem readD_ok {pw:Pow} {D:Dsk} {at_:Int} (h:DskOk D):CelOk (readD pw D at_).1:=by
 unfold readD
 split
 ·exact sct0_ok
 ·split
  ·exact sct0_ok
  ·split
   ·exact sct0_ok
   ·split
    ·exact sct0_ok
    ·exact h.get _
section calls
variable {w:World} {q:SB} {s:SS} {R:Value→World→Prop}
theorem st_cell (h:SetAt w q s) {p:Option Addr} {l c:Nat} (hsl:SlL dLay w p l (q.bks.map Prod.fst)) {x:Plc} (hxd:0≤x.dk∧x.dk<q.g.d) (hxa:0≤x.at_∧x.at_<q.g.c*q.g.s) (hok:∀ D∈s.ds,DskOk D)
  (hK:∀ w',Keep (fun _=>False) w w'→R (cellV s.pw (cellD (s.ds.getD x.dk.toNat dsk0) x.at_)) w'):zB Tryz.prog 106 #[.agg (setV q.g p l c),.agg (plcV x)] w R:=by
 apply C_stripe_cell
 unfold F_stripe_cell
 refine alc_fresh fun w1 hb1 k1 z1=>?_
 refine alc_fresh fun w2 hb2 k2 z2=>?_
 refine alc_fresh fun w3 hb3 k3 z3=>?_
 rw [zc_sec] at hb3
 have hs3:=(k2.trans k3).has hb1 (by simp)
 have hp3:=k3.has hb2 (by simp)
 have k03:=(k1.trans k2).trans k3
 have hz:w.heap.size≤w2.heap.size:=by omega
 have hz1:w.heap.size<w2.heap.size:=by omega
 have hz2:w1.heap.size<w2.heap.size:=by omega
 generalize hB2:w2.heap.size=b2 at *
 generalize w1.heap.size=b1 at *
 generalize hB:w.heap.size=b at *
 intro d
 have kd:=Keep.drew (fun _=>False) w3 d
 have h4:=h.keep0 (k03.trans kd)
 have hsl4:=hsl.keepB (k03.trans kd) (by simp)
 have hs4:=hs3.dr d
 have hp4:=hp3.dr d
 have hc4:=hb3.dr d
 have k04:=k03.trans kd
 generalize w3.dr d=w4 at *
 obtain ⟨S,hS⟩:∃ S:World→Prop,S=fun w'=>Has w' b (.cells (setV q.g p l c) 51 (0,0))∧Has w' b1 (.cells (plcV x) 84 (0,0))∧SlL dLay w' p l (q.bks.map Prod.fst):=⟨_,rfl⟩
 have hSw:∀ w',Keep (fun k=>k=b2) w4 w'→S w':=fun w' k=>by
  rw [hS]
  exact ⟨k.has hs4 (by omega),k.has hp4 (by omega),hsl.keepB ((k04.mono fun _ h=>h.elim).trans k) fun i hi e=>by rw [hB] at hi;omega⟩
 have hS1:∀ w',S w'→Has w' b (.cells (setV q.g p l c) 51 (0,0)):=fun w' hw=>by rw [hS] at hw;exact hw.1
 have hS2:∀ w',S w'→Has w' b1 (.cells (plcV x) 84 (0,0)):=fun w' hw=>by rw [hS] at hw;exact hw.2.1
 have hS3:∀ w',S w'→SlL dLay w' p l (q.bks.map Prod.fst):=fun w' hw=>by rw [hS] at hw;exact hw.2.2
 have hS0:S w4:=hSw w4 (Keep.refl _ _)
 refine ⟨S,hS0,?_⟩
 refine LdV_of (v:=.slice p l c) (fun w' hw=>⟨_,_,_,hS1 w' hw,rfl⟩) (zC.2 ?_)
 refine LdV_of (v:=.int .i64 x.dk) (fun w' hw=>⟨_,_,_,hS2 w' hw,rfl⟩) (zA.2 ?_)
 obtain ⟨bd,r,D,hbk,hD,hda,hdl⟩:=h4.get (i:=x.dk.toNat) (by have:=h4.num;omega)
 have hDg:s.ds.getD x.dk.toNat dsk0=D:=by rw [List.getD_eq_getElem?_getD,hD];rfl
 have hDok:DskOk D:=hok D (List.mem_of_getElem? hD)
 rw [hDg] at hK
 refine SlL.ldSd (S:=S) (w0:=w4) hS0 hS3 (i:=x.dk) (x:=bd) (n:=1) (v:=.pointer (some ⟨bd,0,none⟩)) rfl hxd.1 (by rw [List.getElem?_map,hbk];rfl) rfl ?_
 refine OpN_some.2 ?_
 refine LdV_of (v:=.int .i64 x.at_) (fun w' hw=>⟨_,_,_,hS2 w' hw,rfl⟩) (zA.2 ?_)
 have hxl:0≤x.at_∧x.at_<(D.secs.length:Int):=by rw [hdl];exact hxa
 have hrc:=readD_cell (pw:=s.pw) (D:=D) (at_:=x.at_) hxl
 have hro:=readD_ok (pw:=s.pw) (D:=D) (at_:=x.at_) hDok
 have hz4:b2<w4.heap.size:=hc4.lt
 have hfin:∀ w',Keep (fun k=>k=b2) w4 w'→Keep (fun _=>False) w w':=fun w' k=>k04.trans' k fun i hi e=>by rw [hB] at hi;omega
 have tail:∀ (w5:World) (b5:Nat),Keep (fun _=>False) w4 w5→b5≠b2→b5≠b→b5≠b1→w4.heap.size≤b5→Has w5 b5 (.cells (celV (readD s.pw D x.at_).1) 86 (0,0))→CelT b1 b2 b5 (readD s.pw D x.at_).2 w5 R:=by
  intro w5 b5 k5 _ _ _ _ hc5
  refine celT (S:=fun k=>k=b2) (w0:=w4) (k5.mono fun _ h=>h.elim) rfl (k5.has hp4 (by simp)) (k5.has hc4 (by simp)) hc5 hro fun w' k'=>?_
  rw [hrc]
  exact hK w' (hfin w' k')
 have keepF:∀ {w5:World},Keep (fun _=>False) w4 w5→S w5:=fun k=>hSw _ (k.mono fun _ h=>h.elim)
 refine ⟨?_,?_⟩
 ·refine d_Read hda h4.main fun w5 k5=>?_
  refine T2_mk.2 (OpA_agg.2 ⟨rfl,zA.2 ⟨keepF k5,?_⟩⟩)
  refine alc_fresh fun w6 hb6 k6 z6=>?_
  refine ⟨keepF (k5.trans k6),?_⟩
  rw [zc_cel] at hb6
  have hz5:=k5.size
  have hz6:w4.heap.size≤w5.heap.size:=hz5
  refine StA_all hb6 rfl rfl (one_celV _) ?_
  have k47:Keep (fun _=>False) w4 (w6.upd w5.heap.size (.cells (celV (readD s.pw D x.at_).1) 86 (0,0))):=(Keep.refl (fun _=>False) w4).trans' (((k5.trans k6).mono fun _ h=>h.elim).upd (S:=fun k=>k=w5.heap.size) (fun _=>rfl) _) fun i hi e=>by omega
  refine ⟨keepF k47,?_⟩
  exact tail _ w5.heap.size k47 (by omega) (by have:=hs4.lt;omega) (by have:=hp4.lt;omega) hz6 (hb6.upd_same _)
 ·refine alc_fresh fun w6 hb6 k6 z6=>?_
  refine ⟨keepF k6,?_⟩
  rw [zc_cel] at hb6
  refine d_Read (hda.keep k6 (by simp) (by simp)) (h4.keep0 k6).main fun w5 k5=>?_
  have hb5:=k5.has hb6 (by simp)
  refine T2_mk.2 (OpA_agg.2 ⟨rfl,zA.2 ⟨keepF (k6.trans k5),?_⟩⟩)
  refine StA_all hb5 rfl rfl (one_celV _) ?_
  have k47:Keep (fun _=>False) w4 (w5.upd w4.heap.size (.cells (celV (readD s.pw D x.at_).1) 86 (0,0))):=(Keep.refl (fun _=>False) w4).trans' (((k6.trans k5).mono fun _ h=>h.elim).upd (S:=fun k=>k=w4.heap.size) (fun _=>rfl) _) fun i hi e=>by omega
  refine ⟨keepF k47,?_⟩
  exact tail _ w4.heap.size k47 (by omega) (by have:=hs4.lt;omega) (by have:=hp4.lt;omega) (Nat.le_refl _) (hb5.upd_same _)
end calls
def hLay:Lay (Option Addr×Nat×Nat):=⟨1,fun h=>[.slice h.1 h.2.1 h.2.2],fun _=>rfl,fun y v hv=>by rw [List.mem_singleton.1 hv];rfl,by decide⟩
theorem hLayT:LayT Tryz.prog hLay 187 22 24:=⟨by kernel_rfl,⟨(Tryz.prog.info? 22).get (by kernel_rfl),((Tryz.prog.info? 22).get (by kernel_rfl)).zero.get (by kernel_rfl),by kernel_rfl,by kernel_rfl,by kernel_rfl,by kernel_rfl,by kernel_rfl⟩⟩
theorem bsl_h1 (p:Option Addr) (l c:Nat) (w:World):(Instr.buildSlice 187 1 #[(0,.slice p l c)]).run Tryz.prog w=.ok (.slice (some ⟨w.heap.size,0,none⟩) 1 1) (w.alloc (.cells #[.slice p l c] 22)) :=
 run_buildSlice w 187 22 1 _ #[.slice p l c] ((Tryz.prog.info? 22).get (by kernel_rfl)) (((Tryz.prog.info? 22).get (by kernel_rfl)).zero.get (by kernel_rfl)) (by kernel_rfl) (by kernel_rfl) (by kernel_rfl) (by decide +kernel) (by decide +kernel) (by kernel_rfl)
theorem bsl_h2 (p1 p2:Option Addr) (l1 c1 l2 c2:Nat) (w:World):(Instr.buildSlice 187 2 #[(0,.slice p1 l1 c1),(1,.slice p2 l2 c2)]).run Tryz.prog w=.ok (.slice (some ⟨w.heap.size,0,none⟩) 2 2) (w.alloc (.cells #[.slice p1 l1 c1,.slice p2 l2 c2] 22)) :=
 run_buildSlice w 187 22 2 _ #[.slice p1 l1 c1,.slice p2 l2 c2] ((Tryz.prog.info? 22).get (by kernel_rfl)) (((Tryz.prog.info? 22).get (by kernel_rfl)).zero.get (by kernel_rfl)) (by kernel_rfl) (by kernel_rfl) (by kernel_rfl) (by decide +kernel) (by decide +kernel) (by kernel_rfl)
theorem bsl_hh2 (p1 p2:Option Addr) (l1 c1 l2 c2:Nat) (w:World):(Instr.buildSlice 361 2 #[(0,.slice p1 l1 c1),(1,.slice p2 l2 c2)]).run Tryz.prog w=.ok (.slice (some ⟨w.heap.size,0,none⟩) 2 2) (w.alloc (.cells #[.slice p1 l1 c1,.slice p2 l2 c2] 187)) :=
 run_buildSlice w 361 187 2 _ #[.slice p1 l1 c1,.slice p2 l2 c2] ((Tryz.prog.info? 187).get (by kernel_rfl)) (((Tryz.prog.info? 187).get (by kernel_rfl)).zero.get (by kernel_rfl)) (by kernel_rfl) (by kernel_rfl) (by kernel_rfl) (by decide +kernel) (by decide +kernel) (by kernel_rfl)
section calls
variable {w:World} {R:Value→World→Prop}
theorem growB {n:Int} (h0:0≤n) (h1:n≤1000000) (hK:∀ p c w',OwnL hLay w' w.heap.size 22 p 0 c []→Keep (fun _=>False) w w'→R (.slice p 0 c) w') :
  zB Tryz.prog 268 #[.slice none 0 0,.int .i64 n] w R:=by
 apply C_slices_Grow_byte
 unfold F_slices_Grow_byte
 rw [show decide (n<0)=false by simp;omega,Cb_false]
 have ew:IntKind.wrap .i64 (n-IntKind.wrap .i64 (((0:Nat):Int)-((0:Nat):Int)))=n:=by
  rw [show IntKind.wrap .i64 (((0:Nat):Int)-((0:Nat):Int))=0 from rfl,Int.sub_zero]
  exact wrapI (by omega) (by omega)
 rw [ew]
 refine Cb_of (fun hn=>?_) (fun hn=>?_)
 ·have hn':0<n:=by simpa using hn
  refine ⟨by decide,by decide,by decide,by decide,?_⟩
  have hnn:n=((n.toNat:Nat):Int):=by omega
  have hr:=Lib.run_append_nil_zeros (P:=Tryz.prog) w 187 3 187 22 ((Tryz.prog.info? 22).get (by kernel_rfl)) ((((Tryz.prog.info? 22).get (by kernel_rfl)).zero).get (by kernel_rfl)) .i64 .i64 (by kernel_rfl) (by kernel_rfl) (by kernel_rfl) (by kernel_rfl)
   n.toNat (by omega) (by decide +kernel) (by omega) (by rw [show ((Tryz.prog.info? 22).get (by kernel_rfl)).bytes=24 by kernel_rfl];omega)
  rw [← hnn] at hr
  refine ⟨_,_,hr,zC.2 ?_⟩
  have hge:=grownCap_ge w n.toNat 0 22
  have hcm:grownCap w n.toNat 0 22≤maxLen:=grownCap_le_maxLen w n.toNat 0 22 (by simp [maxLen];omega)
  generalize grownCap w n.toNat 0 22=cp at *
  refine ⟨by simp,by simp,by simp,by simp,?_⟩
  simp only [Ret_nil,Option.getD_none,Option.getD_some,Int.toNat_zero,Int.toNat_natCast,Nat.sub_zero]
  have hs:slcP 1 0 cp (some ⟨w.heap.size,0,none⟩)=some ⟨w.heap.size,0,none⟩:=by
   unfold slcP
   split
   ·rfl
   ·simp [Addr.add]
  refine (congrArg (fun q=>R (Value.slice q 0 cp) _) hs).mpr ?_
  refine hK _ _ _ (Own.mk (Nat.le_refl _) (Has.new _ _) (by omega) hcm ?_ (by simp [Lay.rows])) ?_
  ·rw [Array.size_append,size_zeroCells,size_zeroCells,show ((((Tryz.prog.info? 22).get (by kernel_rfl)).zero).get (by kernel_rfl)).cells.size=1 by kernel_rfl,← Nat.add_mul]
   show _=cp*1
   congr 1;omega
  ·exact (Keep.refl (fun _=>False) w).trans ⟨rfl,rfl,rfl,by simp,fun k hk _=>by show (w.heap.push _)[k]? = _;rw [Array.getElem?_push,if_neg (by omega)]⟩
 ·simp only [Ret_nil]
  exact hK none 0 w OwnL.nil (Keep.refl _ _)
theorem concatB {b:Nat} {p1 p2:Option Addr} {l1 c1 l2 c2:Nat} {hs1 hs2:List (Option Addr×Nat×Nat)} (hb:Has w b (.cells #[.slice p1 l1 c1,.slice p2 l2 c2] 187 (0,0))) (h1:SlL hLay w p1 l1 hs1) (h2:SlL hLay w p2 l2 hs2) (hl1:l1≤1000) (hl2:l2≤1000)
  (hK:∀ p c w',OwnL hLay w' w.heap.size 22 p (hs1++hs2).length c (hs1++hs2)→Keep (fun _=>False) w w'→R (.slice p (hs1++hs2).length c) w') :
  zB Tryz.prog 237 #[.slice (some ⟨b,0,none⟩) 2 2] w R:=by
 apply C_slices_Concat_byte
 unfold F_slices_Concat_byte
 have e1:=h1.1
 have e2:=h2.1
 have ob:OwnL hLay w 0 187 (some ⟨b,0,none⟩) 2 2 [(p1,l1,c1),(p2,l2,c2)]:=OwnL.mk (xs:=[(p1,l1,c1),(p2,l2,c2)]) (Nat.zero_le _) hb (by simp [maxLen]) rfl
 obtain ⟨qs,hqs⟩:∃ qs:List ((Option Addr×Nat×Nat)×List (Option Addr×Nat×Nat)),qs=[((p1,l1,c1),hs1),((p2,l2,c2),hs2)]:=⟨_,rfl⟩
 have hq:∀ (i:Nat) (x:(Option Addr×Nat×Nat)×List (Option Addr×Nat×Nat)),qs[i]? = some x→SlL hLay w x.1.1 x.1.2.1 x.2∧[(p1,l1,c1),(p2,l2,c2)][i]? = some x.1∧x.1.2.1≤1000:=by
  intro i x hx
  rw [hqs] at hx
  match i,hx with
  | 0,hx=>cases hx;exact ⟨h1,rfl,hl1⟩
  | 1,hx=>cases hx;exact ⟨h2,rfl,hl2⟩
  | i+2,hx=>simp at hx
 have hql:qs.length=2:=by rw [hqs];rfl
 have hall:(qs.map (·.2)).flatten=hs1++hs2:=by rw [hqs];simp
 have hsum:∀ k,k≤2→((qs.take k).map (·.2)).flatten.length≤2000:=by
  intro k hk
  rw [hqs]
  match k,hk with
  | 0,_=>simp
  | 1,_=>simp;omega
  | 2,_=>simp;omega
 clear hqs
 refine LoopC_of (σ:=Int×Int×Unit) (fun s w'=>w'=w∧∃ j:Nat,s.2.1=j∧j≤2∧s.1=(((qs.take j).map (·.2)).flatten.length:Int)) (fun s _=>(2-s.2.1).toNat) ⟨rfl,0,rfl,by omega,by simp⟩ ?_
 rintro _ ⟨sz,i,u⟩ w1 ⟨hw,j,hij,hjn,hsz⟩
 simp only at hij hsz ⊢
 subst hij hsz
 rw [hw]
 clear hw
 have tk:∀ {k:Nat} {x:(Option Addr×Nat×Nat)×List (Option Addr×Nat×Nat)},qs[k]? = some x→((qs.take (k+1)).map (·.2)).flatten=((qs.take k).map (·.2)).flatten++x.2:=by
  intro k x hx
  rw [List.take_add_one,hx]
  simp
 refine Cb_of (fun hc=>?_) (fun hc=>?_)
 ·have hj:j<2:=by simp only [decide_eq_true_eq] at hc;omega
  obtain ⟨x,hx⟩:∃ x,qs[j]? = some x:=⟨_,List.getElem?_eq_getElem (by omega)⟩
  obtain ⟨g1,g2,g3⟩:=hq j x hx
  refine ob.ld0 (i:=(j:Int)) (n:=1) (x:=x.1) (v:=.slice x.1.1 x.1.2.1 x.1.2.2) rfl (by omega) (by simpa using g2) rfl (zC.2 ?_)
  have hlen:=hsum (j+1) (by omega)
  rw [tk hx,List.length_append] at hlen
  have g4:=g1.1
  have ew:IntKind.wrap .i64 ((((qs.take j).map (·.2)).flatten.length:Int)+(x.1.2.1:Int))=(((qs.take (j+1)).map (·.2)).flatten.length:Int):=by
   rw [wrapI (by omega) (by omega),tk hx,List.length_append,g4];omega
  rw [ew,decide_eq_false (by omega)]
  refine (Cb_false (p:=_)).2 ?_
  have ew2:IntKind.wrap .i64 ((j:Int)+1)=((j+1:Nat):Int):=by rw [wrapI (by omega) (by omega)];omega
  rw [ew2]
  exact ⟨_,by show (2-((j+1:Nat):Int)).toNat<(2-(j:Int)).toNat;omega,⟨by trivial,j+1,rfl,by omega,rfl⟩,rfl⟩
 ·have hj:j=2:=by simp only [decide_eq_false_iff_not] at hc;omega
  subst hj
  have hlen:=hsum 2 (by omega)
  refine growB (by omega) (by omega) fun p c' w2 ho k2=>?_
  refine zC.2 ?_
  refine LoopC_of (σ:=(Option Addr×Nat×Nat)×Int×Unit) (fun s w'=>∃ i:Nat,s.2.1=i∧i≤2∧Keep (fun _=>False) w w'∧OwnL hLay w' w.heap.size 22 s.1.1 s.1.2.1 s.1.2.2 (((qs.take i).map (·.2)).flatten)) (fun s _=>(2-s.2.1).toNat)
   ⟨0,rfl,by omega,k2,by simpa using ho⟩ ?_
  rintro _ ⟨⟨q,l,cq⟩,i,u⟩ w3 ⟨i',hij,hin,k3,ho3⟩
  simp only at hij ho3 ⊢
  subst hij
  refine Cb_of (fun hc=>?_) (fun hc=>?_)
  ·have hi:i'<2:=by simp only [decide_eq_true_eq] at hc;omega
   obtain ⟨x,hx⟩:∃ x,qs[i']? = some x:=⟨_,List.getElem?_eq_getElem (by omega)⟩
   obtain ⟨g1,g2,g3⟩:=hq i' x hx
   refine (ob.keep k3 (by simp)).ld0 (i:=(i':Int)) (n:=1) (x:=x.1) (v:=.slice x.1.1 x.1.2.1 x.1.2.2) rfl (by omega) (by simpa using g2) rfl (zC.2 ?_)
   have hlen2:=hsum (i'+1) (by omega)
   rw [tk hx,List.length_append] at hlen2
   have g4:=g1.1
   have hlq:=ho3.length
   obtain ⟨p',c2,w4,hr4,ho4,k4⟩:=run_appendL hLayT ho3 (g1.keepB k3 (by simp)) (ty:=187) (c2:=x.1.2.2) (by omega) (by simp only [maxLen];omega) k3.size
   refine ⟨_,_,hr4,zC.2 ?_⟩
   have ew2:IntKind.wrap .i64 ((i':Int)+1)=((i'+1:Nat):Int):=by rw [wrapI (by omega) (by omega)];omega
   rw [ew2]
   refine ⟨_,by show (2-((i'+1:Nat):Int)).toNat<(2-(i':Int)).toNat;omega,⟨i'+1,rfl,by omega,k3.trans' k4 (fun k hk hp=>by have:=(ho3.lt hp).1;omega),by rw [tk hx];exact ho4⟩,rfl⟩
  ·have hi:i'=2:=by simp only [decide_eq_false_iff_not] at hc;omega
   subst hi
   have hfin:((qs.take 2).map (·.2)).flatten=hs1++hs2:=by
    rw [List.take_of_length_le (by omega)];exact hall
   rw [hfin] at ho3
   have hll:=ho3.length
   subst hll
   exact Ret_nil.2 (hK q cq w3 ho3 k3)
theorem run_mt0 (w:World):(Instr.buildSlice 22 0 #[]).run Tryz.prog w=.ok (.slice (some ⟨w.heap.size,0,none⟩) 0 0) (w.alloc (.cells #[] 5)):=by kernel_rfl
def ColAt (w:World) (h:Option Addr×Nat×Nat):Option Sec→Prop
 | none=>h=(none,0,0)
 | some f=>(∃ b o,h.1=some ⟨b,o,none⟩)∧h.2.1=16∧16≤h.2.2∧SlL byLay w h.1 16 (secB f)
theorem ColAt.keep {w':World} {h:Option Addr×Nat×Nat}:∀ {C:Option Sec},ColAt w h C→Keep (fun _=>False) w w'→ColAt w' h C
 | none,hc,_=>hc
 | some f,⟨h1,h2,h3,h4⟩,k=>⟨h1,h2,h3,h4.keepB k (by simp)⟩
theorem p_Clone {h:Option Addr×Nat×Nat} {C:Option Sec} (hc:ColAt w h C) (hK:∀ h' w',ColAt w' h' C→(∀ f,C=some f→OwnL byLay w' w.heap.size 5 h'.1 16 h'.2.2 (secB f))→Keep (fun _=>False) w w'→R (.slice h'.1 h'.2.1 h'.2.2) w') :
  zB Tryz.prog 181 #[.slice h.1 h.2.1 h.2.2] w R:=by
 apply C_slices_Clone_byte
 unfold F_slices_Clone_byte
 cases C with
 | none =>
  have hc:h=(none,0,0):=hc
  subst hc
  exact (Cb_true (q:=_)).2 (Ret_nil.2 (hK (none,0,0) w rfl (fun f hf=>by cases hf) (Keep.refl _ _)))
 | some f =>
  obtain ⟨⟨b,o,hp⟩,hl,hcap,hs⟩:=hc
  obtain ⟨hp0,hl0,hc0⟩:=h
  simp only at hp hl hcap hs
  subst hp hl
  refine (Cb_false (p:=_)).2 ?_
  refine ⟨_,_,run_mt0 w,zC.2 ?_⟩
  have k1:=Keep.new (fun _=>False) w (.cells #[] 5)
  have h1:=Has.new w (.cells #[] 5)
  generalize hw1:w.alloc (.cells #[] 5)=w1 at *
  have o1:OwnL byLay w1 w.heap.size 5 (some ⟨w.heap.size,0,none⟩) 0 0 []:=OwnL.mk (xs:=[]) (Nat.le_refl _) h1 (by simp [maxLen]) rfl
  obtain ⟨p',c2,w2,hr,o2,k2⟩:=run_appendL byLayT o1 (hs.keepB k1 (by simp)) (ty:=22) (c2:=hc0) (by omega) (by simp only [maxLen];omega) k1.size
  refine ⟨_,_,hr,zC.2 (Ret_nil.2 ?_)⟩
  have o2:OwnL byLay w2 w.heap.size 5 p' 16 c2 (secB f):=o2
  have hsome:∃ b o,p'=some ⟨b,o,none⟩:=by
   obtain ⟨b,cur,e,_⟩:=o2.cells (by omega)
   exact ⟨b,0,e⟩
  refine hK (p',16,c2) w2 ⟨hsome,rfl,o2.cap.1,o2.sl⟩ (fun f' hf=>by cases hf;exact o2) (k1.trans' k2 fun i hi e=>?_)
  cases e
  omega
end calls
def xt (x:Nat):Nat:=if 255<2*x then (2*x) ^^^ 285 else 2*x
def gmL:Nat→Nat→Nat→Nat→Nat
 | 0,_,p,_=>p
 | k+1,b,p,x=>if b=0 then p else gmL k (b / 2) (if b % 2=1 then p ^^^ x else p) (xt x)
def gmN (a b:Nat):Nat:=gmL 8 b 0 a
def powL:Nat→Nat→Nat→Nat→Nat
 | 0,_,_,p=>p
 | k+1,n,a,p=>if n=0 then p else powL k (n / 2) (gmN a a) (if n % 2=1 then gmN p a else p)
def powN (a n:Nat):Nat:=powL 8 n a 1
def expN (i:Nat):Nat:=powN 2 i
theorem xt_lt {x:Nat} (h:x<256):xt x<256:=by
 have:∀ x:Fin 256,xt x.val<256:=by decide +kernel
 exact this ⟨x,h⟩
theorem xor_lt8 {a b:Nat} (ha:a<256) (hb:b<256):a ^^^ b<256:=Nat.xor_lt_two_pow (n:=8) ha hb
theorem gmL_lt:∀ (k b p x:Nat),p<256→x<256→gmL k b p x<256
 | 0,_,_,_,hp,_=>hp
 | k+1,b,p,x,hp,hx=>by
  unfold gmL
  split
  ·exact hp
  ·refine gmL_lt k _ _ _ ?_ (xt_lt hx)
   split
   ·exact xor_lt8 hp hx
   ·exact hp
theorem gmN_lt {a b:Nat} (ha:a<256):gmN a b<256:=gmL_lt 8 b 0 a (by omega) ha
theorem powL_lt:∀ (k n a p:Nat),a<256→p<256→powL k n a p<256
 | 0,_,_,_,_,hp=>hp
 | k+1,n,a,p,ha,hp=>by
  unfold powL
  split
  ·exact hp
  ·refine powL_lt k _ _ _ (gmN_lt ha) ?_
   split
   ·exact gmN_lt hp
   ·exact hp
theorem powN_lt {a n:Nat} (ha:a<256):powN a n<256:=powL_lt 8 n a 1 ha (by omega)
theorem ofInt64 (n:Nat):BitVec.ofInt 64 (n:Int)=BitVec.ofNat 64 n:=by simp
theorem ofInt8 (n:Nat):BitVec.ofInt 8 (n:Int)=BitVec.ofNat 8 n:=by simp
theorem xor_i64 {a b:Nat} (ha:a<2 ^ 62) (hb:b<2 ^ 62):ibits .xor .i64 (a:Int) (b:Int)=((a ^^^ b:Nat):Int):=by
 show IntKind.wrap .i64 ((BitVec.ofInt 64 _ ^^^ BitVec.ofInt 64 _).toNat:Int)=_
 rw [ofInt64,ofInt64,BitVec.toNat_xor,BitVec.toNat_ofNat,BitVec.toNat_ofNat,Nat.mod_eq_of_lt (by omega),Nat.mod_eq_of_lt (by omega)]
 have:a ^^^ b<2 ^ 62:=Nat.xor_lt_two_pow ha hb
 exact wrapI (by omega) (by omega)
theorem xor_u8 {a b:Nat} (ha:a<256) (hb:b<256):ibits .xor .u8 (a:Int) (b:Int)=((a ^^^ b:Nat):Int):=by
 show IntKind.wrap .u8 ((BitVec.ofInt 8 _ ^^^ BitVec.ofInt 8 _).toNat:Int)=_
 rw [ofInt8,ofInt8,BitVec.toNat_xor,BitVec.toNat_ofNat,BitVec.toNat_ofNat,Nat.mod_eq_of_lt (by omega),Nat.mod_eq_of_lt (by omega)]
 have:a ^^^ b<256:=xor_lt8 ha hb
 exact wrapU8 (by omega) (by omega)
theorem and1_u8 {b:Nat} (hb:b<256):ibits .and .u8 (b:Int) 1=((b % 2:Nat):Int):=by
 have e:((1:Int))=((1:Nat):Int):=rfl
 rw [e]
 show IntKind.wrap .u8 ((BitVec.ofInt 8 _ &&& BitVec.ofInt 8 _).toNat:Int)=_
 rw [ofInt8,ofInt8,BitVec.toNat_and,BitVec.toNat_ofNat,BitVec.toNat_ofNat,Nat.mod_eq_of_lt (by omega),Nat.mod_eq_of_lt (by omega),Nat.and_one_is_mod]
 exact wrapU8 (by omega) (by omega)
theorem and1_i64 {b:Nat} (hb:b<2 ^ 62):ibits .and .i64 (b:Int) 1=((b % 2:Nat):Int):=by
 have e:((1:Int))=((1:Nat):Int):=rfl
 rw [e]
 show IntKind.wrap .i64 ((BitVec.ofInt 64 _ &&& BitVec.ofInt 64 _).toNat:Int)=_
 rw [ofInt64,ofInt64,BitVec.toNat_and,BitVec.toNat_ofNat,BitVec.toNat_ofNat,Nat.mod_eq_of_lt (by omega),Nat.mod_eq_of_lt (by omega),Nat.and_one_is_mod]
 exact wrapI (by omega) (by omega)
theorem shl1_i64 {x:Nat} (hx:x<2 ^ 61):ishl .i64 (x:Int) 1=((2*x:Nat):Int):=by
 unfold ishl
 show IntKind.wrap .i64 ((x:Int)*2 ^ (min 1 64))=_
 have:((x:Int)*2 ^ (min 1 64))=((2*x:Nat):Int):=by simp;omega
 rw [this]
 exact wrapI (by omega) (by omega)
theorem shr1 {k:IntKind} {x:Nat}:ishr k (x:Int) 1=((x / 2:Nat):Int):=by
 unfold ishr
 have:∀ b:Nat,1≤b→Int.fdiv (x:Int) (2 ^ (min (1:Int).toNat b))=((x / 2:Nat):Int):=by
  intro b hb
  rw [show (1:Int).toNat=1 from rfl,Nat.min_eq_left hb]
  simp only [Int.pow_one]
  rw [Int.fdiv_eq_ediv_of_nonneg _ (by omega)]
  rfl
 cases k <;> exact this _ (by decide)
section calls
variable {w:World} {R:Value→World→Prop}
theorem g_Mul {a b:Nat} (ha:a<256) (hb:b<256) (hK:R (.int .u8 ((gmN a b:Nat):Int)) w):zB Tryz.prog 238 #[.int .u8 (a:Int),.int .u8 (b:Int)] w R:=by
 apply C_gf_Mul
 unfold F_gf_Mul
 have e0:IntKind.wrap .i64 (a:Int)=(a:Int):=wrapI (by omega) (by omega)
 rw [e0]
 refine LoopC_of (σ:=Int×Int×Int×Unit) (fun st w'=>w'=w∧∃ k bn pn xn:Nat,st.1=(bn:Int)∧st.2.1=(pn:Int)∧st.2.2.1=(xn:Int)∧bn<2 ^ k∧k≤8∧pn<256∧xn<256∧gmL k bn pn xn=gmN a b) (fun st _=>st.1.toNat)
  ⟨rfl,8,b,0,a,rfl,rfl,rfl,hb,Nat.le_refl _,by omega,ha,rfl⟩ ?_
 rintro _ ⟨b1,p1,x1,u⟩ w1 ⟨hw,k,bn,pn,xn,h1,h2,h3,hk,hk8,hp,hx,hg⟩
 simp only at h1 h2 h3 ⊢
 subst h1 h2 h3
 rw [hw]
 clear hw
 have hbn:bn<256:=Nat.lt_of_lt_of_le hk (by have:=Nat.pow_le_pow_right (n:=2) (by omega) hk8;simpa using this)
 refine Cb_of (fun hc=>?_) (fun hc=>?_)
 ·have hc:0<bn:=by
   have:(bn:Int)>0:=by simpa using hc
   omega
  obtain ⟨k',rfl⟩:∃ k',k=k'+1:=by
   cases k with
   | zero=>simp at hk;omega
   | succ k=>exact ⟨k,rfl⟩
  have hst:gmL (k'+1) bn pn xn=gmL k' (bn / 2) (if bn % 2=1 then pn ^^^ xn else pn) (xt xn):=by
   show (if bn=0 then pn else _)=_
   rw [if_neg (by omega)]
  rw [hst] at hg
  rw [and1_u8 hbn,shl1_i64 (by omega),shr1]
  have hlt:bn / 2<2 ^ k':=by rw [Nat.pow_succ] at hk;omega
  have hm:(((bn / 2:Nat):Int)).toNat<((bn:Int)).toNat:=by omega
  have hx285:255<2*xn→ibits .xor .i64 (((2*xn:Nat):Int)) 285=((xt xn:Nat):Int):=by
   intro h
   have:=xor_i64 (a:=2*xn) (b:=285) (by omega) (by omega)
   unfold xt
   rw [if_pos h]
   exact this
  have hx0:¬ 255<2*xn→((2*xn:Nat):Int)=((xt xn:Nat):Int):=by
   intro h
   unfold xt
   rw [if_neg h]
  have fin:∀ P1:Nat,P1=(if bn % 2=1 then pn ^^^ xn else pn)→∃ m',m'<((bn:Int)).toNat∧((w=w)∧∃ k bn' pn' xn':Nat,((bn / 2:Nat):Int)=(bn':Int)∧(P1:Int)=(pn':Int)∧((xt xn:Nat):Int)=(xn':Int)∧bn'<2 ^ k∧k≤8∧pn'<256∧xn'<256∧gmL k bn' pn' xn'=gmN a b)∧(((bn / 2:Nat):Int)).toNat=m':=by
   intro P1 hP
   refine ⟨_,hm,⟨rfl,k',bn / 2,P1,xt xn,rfl,rfl,rfl,hlt,by omega,?_,xt_lt hx,by rw [hP];exact hg⟩,rfl⟩
   rw [hP]
   split
   ·exact xor_lt8 hp hx
   ·exact hp
  refine Cb_of (fun hb1=>?_) (fun hb1=>?_)
  ·have hb1:bn % 2=1:=by
    have:((bn % 2:Nat):Int)=1:=by simpa using hb1
    omega
   rw [xor_i64 (by omega) (by omega)]
   refine ⟨by decide,?_⟩
   refine Cb_of (fun h=>?_) (fun h=>?_)
   ·have h:255<2*xn:=by simp only [decide_eq_true_eq] at h;omega
    rw [hx285 h]
    have:=fin (pn ^^^ xn) (by rw [if_pos hb1])
    simp only [true_and] at this ⊢
    exact ⟨by decide,this⟩
   ·have h:¬ 255<2*xn:=by simp only [decide_eq_false_iff_not] at h;omega
    rw [hx0 h]
    have:=fin (pn ^^^ xn) (by rw [if_pos hb1])
    simp only [true_and] at this ⊢
    exact ⟨by decide,this⟩
  ·have hb1:¬ bn % 2=1:=by
    have:¬ ((bn % 2:Nat):Int)=1:=by simpa using hb1
    omega
   refine ⟨by decide,?_⟩
   refine Cb_of (fun h=>?_) (fun h=>?_)
   ·have h:255<2*xn:=by simp only [decide_eq_true_eq] at h;omega
    rw [hx285 h]
    have:=fin pn (by rw [if_neg hb1])
    simp only [true_and] at this ⊢
    exact ⟨by decide,this⟩
   ·have h:¬ 255<2*xn:=by simp only [decide_eq_false_iff_not] at h;omega
    rw [hx0 h]
    have:=fin pn (by rw [if_neg hb1])
    simp only [true_and] at this ⊢
    exact ⟨by decide,this⟩
 ·have hc:bn=0:=by
   have:¬ (bn:Int)>0:=by simpa using hc
   omega
  subst hc
  have:gmL k 0 pn xn=pn:=by
   cases k with
   | zero=>rfl
   | succ k=>show (if (0:Nat)=0 then pn else _)=pn;rw [if_pos rfl]
  rw [this] at hg
  subst hg
  rw [wrapU8 (by omega) (by omega)]
  exact Ret_nil.2 hK
theorem g_power {a n:Nat} (ha:a<256) (hn:n<256) (hK:R (.int .u8 ((powN a n:Nat):Int)) w):zB Tryz.prog 239 #[.int .u8 (a:Int),.int .i64 (n:Int)] w R:=by
 apply C_gf_power
 unfold F_gf_power
 refine LoopC_of (σ:=Int×Int×Int×Unit) (fun st w'=>w'=w∧∃ k an nn pn:Nat,st.1=(an:Int)∧st.2.1=(nn:Int)∧st.2.2.1=(pn:Int)∧nn<2 ^ k∧k≤8∧an<256∧pn<256∧powL k nn an pn=powN a n) (fun st _=>st.2.1.toNat)
  ⟨rfl,8,a,n,1,rfl,rfl,rfl,hn,Nat.le_refl _,ha,by omega,rfl⟩ ?_
 rintro _ ⟨a1,n1,p1,u⟩ w1 ⟨hw,k,an,nn,pn,h1,h2,h3,hk,hk8,ha2,hp,hg⟩
 simp only at h1 h2 h3 ⊢
 subst h1 h2 h3
 rw [hw]
 clear hw
 have hnn:nn<256:=Nat.lt_of_lt_of_le hk (by have:=Nat.pow_le_pow_right (n:=2) (by omega) hk8;simpa using this)
 refine Cb_of (fun hc=>?_) (fun hc=>?_)
 ·have hc:0<nn:=by
   have:(nn:Int)>0:=by simpa using hc
   omega
  obtain ⟨k',rfl⟩:∃ k',k=k'+1:=by
   cases k with
   | zero=>simp at hk;omega
   | succ k=>exact ⟨k,rfl⟩
  have hst:powL (k'+1) nn an pn=powL k' (nn / 2) (gmN an an) (if nn % 2=1 then gmN pn an else pn):=by
   show (if nn=0 then pn else _)=_
   rw [if_neg (by omega)]
  rw [hst] at hg
  have hlt:nn / 2<2 ^ k':=by rw [Nat.pow_succ] at hk;omega
  rw [and1_i64 (by omega),shr1]
  refine Cb_of (fun hb1=>?_) (fun hb1=>?_)
  ·have hb1:nn % 2=1:=by
    have:((nn % 2:Nat):Int)=1:=by simpa using hb1
    omega
   rw [if_pos hb1] at hg
   refine g_Mul hp ha2 (zA.2 ?_)
   refine g_Mul ha2 ha2 (zA.2 ⟨by decide,?_⟩)
   exact ⟨_,by show (((nn / 2:Nat):Int)).toNat<((nn:Int)).toNat;omega,⟨by trivial,k',gmN an an,nn / 2,gmN pn an,rfl,rfl,rfl,hlt,by omega,gmN_lt ha2,gmN_lt hp,hg⟩,rfl⟩
  ·have hb1:¬ nn % 2=1:=by
    have:¬ ((nn % 2:Nat):Int)=1:=by simpa using hb1
    omega
   rw [if_neg hb1] at hg
   refine g_Mul ha2 ha2 (zA.2 ⟨by decide,?_⟩)
   exact ⟨_,by show (((nn / 2:Nat):Int)).toNat<((nn:Int)).toNat;omega,⟨by trivial,k',gmN an an,nn / 2,pn,rfl,rfl,rfl,hlt,by omega,gmN_lt ha2,hp,hg⟩,rfl⟩
 ·have hc:nn=0:=by
   have:¬ (nn:Int)>0:=by simpa using hc
   omega
  subst hc
  have:powL k 0 an pn=pn:=by
   cases k with
   | zero=>rfl
   | succ k=>show (if (0:Nat)=0 then pn else _)=pn;rw [if_pos rfl]
  rw [this] at hg
  subst hg
  exact Ret_nil.2 hK
theorem g_Exp {i:Nat} (hi:i<255) (hK:R (.int .u8 ((expN i:Nat):Int)) w):zB Tryz.prog 185 #[.int .i64 (i:Int)] w R:=by
 apply C_gf_Exp
 unfold F_gf_Exp
 apply C_gf_around
 unfold F_gf_around
 refine ⟨by decide,by decide,Ret_nil.2 (zA.2 ?_)⟩
 have e:Int.tmod (IntKind.wrap .i64 (Int.tmod (i:Int) 255+255)) 255=(i:Int):=by
  have h1:Int.tmod (i:Int) 255=(i:Int):=by rw [Int.tmod_eq_emod_of_nonneg (by omega)];omega
  rw [h1,wrapI (by omega) (by omega),Int.tmod_eq_emod_of_nonneg (by omega)]
  omega
 rw [e]
 exact g_power (a:=2) (by omega) (by omega) (zA.2 (Ret_nil.2 hK))
theorem g_Inv {a:Nat} (h0:a≠0) (ha:a<256) (hK:R (.tuple #[.int .u8 ((powN a 254:Nat):Int),.int .i64 0]) w):zB Tryz.prog 184 #[.int .u8 (a:Int)] w R:=by
 apply C_gf_Inv
 unfold F_gf_Inv
 have e:((a:Int)==0)=false:=by simp;omega
 rw [e]
 refine (Cb_false (p:=_)).2 ?_
 exact g_power (n:=254) ha (by omega) (zA.2 (Ret_nil.2 hK))
theorem g_Solve {c d e f:Nat} (hc:c<256) (hd:d<256) (he:e<256) (hf:f<256) (hne:gmN 1 d ^^^ gmN 1 c≠0)
  (hK:R (.tuple #[.int .u8 ((gmN (powN (gmN 1 d ^^^ gmN 1 c) 254) (gmN d e ^^^ gmN 1 f):Nat):Int),.int .u8 ((gmN (powN (gmN 1 d ^^^ gmN 1 c) 254) (gmN 1 f ^^^ gmN c e):Nat):Int),.int .i64 0]) w) :
  zB Tryz.prog 186 #[.int .u8 1,.int .u8 1,.int .u8 (c:Int),.int .u8 (d:Int),.int .u8 (e:Int),.int .u8 (f:Int)] w R:=by
 apply C_gf_Solve
 unfold F_gf_Solve
 have l1:gmN 1 d<256:=gmN_lt (by omega)
 have l2:gmN 1 c<256:=gmN_lt (by omega)
 have ldet:powN (gmN 1 d ^^^ gmN 1 c) 254<256:=powN_lt (xor_lt8 l1 l2)
 refine g_Mul (a:=1) (by omega) hd (zA.2 ?_)
 refine g_Mul (a:=1) (by omega) hc (zA.2 ?_)
 rw [xor_u8 l1 l2]
 refine g_Inv hne (xor_lt8 l1 l2) ?_
 refine T2_mk.2 (zA.2 (zA.2 ((Cb_false (p:=_)).2 ?_)))
 refine g_Mul hd he (zA.2 ?_)
 refine g_Mul (a:=1) (by omega) hf (zA.2 ?_)
 rw [xor_u8 (gmN_lt hd) (gmN_lt (by omega))]
 refine g_Mul ldet (xor_lt8 (gmN_lt hd) (gmN_lt (by omega))) (zA.2 ?_)
 refine g_Mul (a:=1) (by omega) hf (zA.2 ?_)
 refine g_Mul hc he (zA.2 ?_)
 rw [xor_u8 (gmN_lt (by omega)) (gmN_lt hc)]
 refine g_Mul ldet (xor_lt8 (gmN_lt (by omega)) (gmN_lt hc)) (zA.2 (Ret_nil.2 hK))
end calls
end Go.Proofs
namespace Go.Proofs
set_option maxRecDepth 100000
def gmF:Nat→Nat→Nat→Nat
 | 0,_,_=>0
 | k+1,b,x=>(if b % 2=1 then x else 0) ^^^ gmF k (b / 2) (xt x)
theorem gmF_zero:∀ k x,gmF k 0 x=0
 | 0,_=>rfl
 | k+1,x=>by
  show (if 0 % 2=1 then x else 0) ^^^ gmF k (0 / 2) (xt x)=0
  rw [if_neg (by omega),Nat.zero_div,gmF_zero k];rfl
theorem gmL_F:∀ k b p x,gmL k b p x=p ^^^ gmF k b x
 | 0,_,p,_=>by show p=p ^^^ 0;rw [Nat.xor_zero]
 | k+1,b,p,x=>by
  unfold gmL
  by_cases hb:b=0
  ·rw [if_pos hb,hb,gmF_zero,Nat.xor_zero]
  ·rw [if_neg hb,gmL_F k]
   show _=p ^^^ ((if b % 2=1 then x else 0) ^^^ gmF k (b / 2) (xt x))
   split
   ·rw [Nat.xor_assoc]
   ·rw [Nat.zero_xor]
theorem gmN_F (a b:Nat):gmN a b=gmF 8 b a:=by unfold gmN;rw [gmL_F,Nat.zero_xor]
theorem xor_swap (a b c d:Nat):(a ^^^ b) ^^^ (c ^^^ d)=(a ^^^ c) ^^^ (b ^^^ d):=by
 rw [Nat.xor_assoc,Nat.xor_assoc,← Nat.xor_assoc b,← Nat.xor_assoc c,Nat.xor_comm b c]
theorem xor_mod2 (b c:Nat):(b ^^^ c) % 2=1 ↔ (b % 2=1∧¬ c % 2=1)∨(¬ b % 2=1∧c % 2=1):=by
 have h:=Nat.testBit_xor b c 0
 simp only [Nat.testBit_zero] at h
 by_cases h1:b % 2=1 <;> by_cases h2:c % 2=1 <;> by_cases h3:(b ^^^ c) % 2=1 <;> simp_all
theorem xor_div2 (b c:Nat):(b ^^^ c) / 2=(b / 2) ^^^ (c / 2):=by
 apply Nat.eq_of_testBit_eq
 intro i
 rw [Nat.testBit_xor,Nat.testBit_div_two,Nat.testBit_div_two,Nat.testBit_div_two,Nat.testBit_xor]
theorem gmF_add:∀ k b c x,gmF k (b ^^^ c) x=gmF k b x ^^^ gmF k c x
 | 0,_,_,_=>by show 0=0 ^^^ 0;rfl
 | k+1,b,c,x=>by
  show (if (b ^^^ c) % 2=1 then x else 0) ^^^ gmF k ((b ^^^ c) / 2) (xt x)=((if b % 2=1 then x else 0) ^^^ gmF k (b / 2) (xt x)) ^^^ ((if c % 2=1 then x else 0) ^^^ gmF k (c / 2) (xt x))
  rw [xor_div2,gmF_add k,xor_swap]
  congr 1
  by_cases h1:b % 2=1
  ·by_cases h2:c % 2=1
   ·rw [if_pos h1,if_pos h2,if_neg (by rw [xor_mod2];simp [h1,h2]),Nat.xor_self]
   ·rw [if_pos h1,if_neg h2,if_pos (by rw [xor_mod2];simp [h1,h2]),Nat.xor_zero]
  ·by_cases h2:c % 2=1
   ·rw [if_neg h1,if_pos h2,if_pos (by rw [xor_mod2];simp [h1,h2]),Nat.zero_xor]
   ·rw [if_neg h1,if_neg h2,if_neg (by rw [xor_mod2];simp [h1,h2]),Nat.xor_self]
theorem gm_add (a b c:Nat):gmN a (b ^^^ c)=gmN a b ^^^ gmN a c:=by rw [gmN_F,gmN_F,gmN_F,gmF_add]
theorem gm_zero (a:Nat):gmN a 0=0:=rfl
theorem top_bit {x:Nat} (h:x<256):(255<2*x) ↔ x.testBit 7=true:=by
 have:∀ x:Fin 256,decide (255<2*x.val)=x.val.testBit 7:=by decide +kernel
 rw [← this ⟨x,h⟩];simp
theorem two_xor (x y:Nat):2*(x ^^^ y)=2*x ^^^ 2*y:=by
 have e:∀ z:Nat,2*z=z <<< 1:=fun z=>by rw [Nat.shiftLeft_eq];omega
 rw [e,e,e,Nat.shiftLeft_xor_distrib]
theorem xt_bit {x:Nat} (h:x<256):xt x=2*x ^^^ (if x.testBit 7=true then 285 else 0):=by
 unfold xt
 by_cases h1:255<2*x
 ·rw [if_pos h1,if_pos ((top_bit h).1 h1)]
 ·rw [if_neg h1,if_neg (fun h2=>h1 ((top_bit h).2 h2)),Nat.xor_zero]
theorem xt_add {x y:Nat} (hx:x<256) (hy:y<256):xt (x ^^^ y)=xt x ^^^ xt y:=by
 rw [xt_bit (xor_lt8 hx hy),xt_bit hx,xt_bit hy,two_xor,xor_swap,Nat.testBit_xor]
 congr 1
 cases x.testBit 7 <;> cases y.testBit 7 <;> simp
theorem gmF_addx:∀ k b x y,x<256→y<256→gmF k b (x ^^^ y)=gmF k b x ^^^ gmF k b y
 | 0,_,_,_,_,_=>by show 0=0 ^^^ 0;rfl
 | k+1,b,x,y,hx,hy=>by
  show (if b % 2=1 then x ^^^ y else 0) ^^^ gmF k (b / 2) (xt (x ^^^ y))=((if b % 2=1 then x else 0) ^^^ gmF k (b / 2) (xt x)) ^^^ ((if b % 2=1 then y else 0) ^^^ gmF k (b / 2) (xt y))
  rw [xt_add hx hy,gmF_addx k _ _ _ (xt_lt hx) (xt_lt hy),xor_swap]
  congr 1
  split <;> simp
theorem gm_addl {a b c:Nat} (ha:a<256) (hb:b<256):gmN (a ^^^ b) c=gmN a c ^^^ gmN b c:=by rw [gmN_F,gmN_F,gmN_F,gmF_addx _ _ _ _ ha hb]
theorem gm_one {x:Nat} (h:x<256):gmN 1 x=x:=by
 have:∀ x:Fin 256,gmN 1 x.val=x.val:=by decide +kernel
 exact this ⟨x,h⟩
def bitN (x i:Nat):Nat:=if x.testBit i=true then 2 ^ i else 0
theorem bits_of {x:Nat} (h:x<256):x=bitN x 0 ^^^ (bitN x 1 ^^^ (bitN x 2 ^^^ (bitN x 3 ^^^ (bitN x 4 ^^^ (bitN x 5 ^^^ (bitN x 6 ^^^ bitN x 7)))))):=by
 have:∀ x:Fin 256,x.val=bitN x.val 0 ^^^ (bitN x.val 1 ^^^ (bitN x.val 2 ^^^ (bitN x.val 3 ^^^ (bitN x.val 4 ^^^ (bitN x.val 5 ^^^ (bitN x.val 6 ^^^ bitN x.val 7)))))):=by decide +kernel
 exact this ⟨x,h⟩
theorem lin_id {f:Nat→Nat} (h0:f 0=0) (ha:∀ x y,f (x ^^^ y)=f x ^^^ f y) (hb:∀ i,i<8→f (2 ^ i)=2 ^ i) {x:Nat} (h:x<256):f x=x:=by
 have e:∀ i,i<8→f (bitN x i)=bitN x i:=by
  intro i hi
  unfold bitN
  split
  ·exact hb i hi
  ·exact h0
 have hx:=bits_of h
 have h1:f (bitN x 0 ^^^ (bitN x 1 ^^^ (bitN x 2 ^^^ (bitN x 3 ^^^ (bitN x 4 ^^^ (bitN x 5 ^^^ (bitN x 6 ^^^ bitN x 7)))))))=bitN x 0 ^^^ (bitN x 1 ^^^ (bitN x 2 ^^^ (bitN x 3 ^^^ (bitN x 4 ^^^ (bitN x 5 ^^^ (bitN x 6 ^^^ bitN x 7)))))):=by
  rw [ha,ha,ha,ha,ha,ha,ha,e 0 (by omega),e 1 (by omega),e 2 (by omega),e 3 (by omega),e 4 (by omega),e 5 (by omega),e 6 (by omega),e 7 (by omega)]
 rw [← hx] at h1
 exact h1
theorem gm_inv {a x:Nat} (h0:a≠0) (ha:a<256) (hx:x<256):gmN (powN a 254) (gmN a x)=x:=by
 have key:∀ a:Fin 256,a.val≠0→∀ i:Fin 8,gmN (powN a.val 254) (gmN a.val (2 ^ i.val))=2 ^ i.val:=by decide +kernel
 refine lin_id (f:=fun x=>gmN (powN a 254) (gmN a x)) rfl (fun x y=>?_) (fun i hi=>key ⟨a,ha⟩ h0 ⟨i,hi⟩) hx
 show gmN _ (gmN a (x ^^^ y))=_
 rw [gm_add,gm_add]
theorem exp_lt {i:Nat}:expN i<256:=powN_lt (by omega)
theorem exp_ne0 {i:Nat} (h:i<30):expN i≠0:=by
 have:∀ i:Fin 30,expN i.val≠0:=by decide +kernel
 exact this ⟨i,h⟩
theorem exp_ne {i j:Nat} (hi:i<30) (hj:j<30) (h:i≠j):expN j ^^^ expN i≠0:=by
 have:∀ i j:Fin 30,i.val≠j.val→expN j.val ^^^ expN i.val≠0:=by decide +kernel
 exact this ⟨i,hi⟩ ⟨j,hj⟩ h
theorem gm_two {i j x y:Nat} (hi:i<30) (hj:j<30) (h:i≠j) (hx:x<256) (hy:y<256) :
  gmN (powN (gmN 1 (expN j) ^^^ gmN 1 (expN i)) 254) (gmN (expN j) (x ^^^ y) ^^^ gmN 1 (gmN (expN i) x ^^^ gmN (expN j) y))=x ∧
  gmN (powN (gmN 1 (expN j) ^^^ gmN 1 (expN i)) 254) (gmN 1 (gmN (expN i) x ^^^ gmN (expN j) y) ^^^ gmN (expN i) (x ^^^ y))=y:=by
 have l1:gmN (expN i) x ^^^ gmN (expN j) y<256:=xor_lt8 (gmN_lt exp_lt) (gmN_lt exp_lt)
 rw [gm_one exp_lt,gm_one exp_lt,gm_one l1,gm_add (expN j) x y,gm_add (expN i) x y]
 have e1:(gmN (expN j) x ^^^ gmN (expN j) y) ^^^ (gmN (expN i) x ^^^ gmN (expN j) y)=gmN (expN j ^^^ expN i) x:=by
  rw [gm_addl exp_lt exp_lt,xor_swap,Nat.xor_self,Nat.xor_zero]
 have e2:(gmN (expN i) x ^^^ gmN (expN j) y) ^^^ (gmN (expN i) x ^^^ gmN (expN i) y)=gmN (expN j ^^^ expN i) y:=by
  rw [gm_addl exp_lt exp_lt,xor_swap,Nat.xor_self,Nat.zero_xor]
 rw [e1,e2]
 have hne:=exp_ne hi hj h
 exact ⟨gm_inv hne (xor_lt8 exp_lt exp_lt) hx,gm_inv hne (xor_lt8 exp_lt exp_lt) hy⟩
end Go.Proofs
namespace Go.Proofs
open Go Go.Ev
set_option maxRecDepth 100000
theorem get_secB (F:Sec):∀ {i:Nat} (h:i<16),(secB F)[i]? = some (F ⟨i,h⟩)
 | 0,_=>rfl | 1,_=>rfl | 2,_=>rfl | 3,_=>rfl | 4,_=>rfl | 5,_=>rfl | 6,_=>rfl | 7,_=>rfl
 | 8,_=>rfl | 9,_=>rfl | 10,_=>rfl | 11,_=>rfl | 12,_=>rfl | 13,_=>rfl | 14,_=>rfl | 15,_=>rfl
 | n+16,h=>absurd h (by omega)
theorem len_secB (F:Sec):(secB F).length=16:=rfl
theorem secB_ext {xs:List Int} {F:Sec} (hl:xs.length=16) (h:∀ i (hi:i<16),xs[i]? = some (F ⟨i,hi⟩)):xs=secB F:=by
 apply List.ext_getElem?
 intro i
 by_cases hi:i<16
 ·rw [h i hi,get_secB F hi]
 ·rw [List.getElem?_eq_none (by omega),List.getElem?_eq_none (by rw [len_secB];omega)]
theorem set_secB (F:Sec) (i:Nat) (v:Int):(secB F).set i v=secB fun k=>if k.val=i then v else F k:=by
 refine secB_ext (by simp [len_secB]) fun j hj=>?_
 rw [List.getElem?_set]
 by_cases h:i=j
 ·subst h
  rw [if_pos rfl,if_pos (by rw [len_secB];exact hj)]
  simp
 ·rw [if_neg h,get_secB F hj]
  simp only
  rw [if_neg (fun e=>h e.symm)]
def xadd (g:Nat) (f y:Sec):Sec:=fun k=>(((f k).toNat ^^^ gmN g (y k).toNat:Nat):Int)
def xaddO (g:Nat) (f:Sec):Option Sec→Sec
 | none=>f
 | some y=>xadd g f y
theorem nat_of {x:Int} (h:0≤x∧x≤255):x=((x.toNat:Nat):Int)∧x.toNat<256:=by omega
theorem xadd_ok {g:Nat} {f y:Sec} (hg:g<256) (hf:SecOk f) (hy:SecOk y):SecOk (xadd g f y):=fun k=>by
 have h1:=nat_of (hf k)
 have:=xor_lt8 h1.2 (gmN_lt (b:=(y k).toNat) hg)
 unfold xadd
 omega
def ColOk:Option Sec→Prop
 | none=>True
 | some y=>SecOk y
theorem xaddO_ok {g:Nat} {f:Sec} {C:Option Sec} (hg:g<256) (hf:SecOk f) (hc:ColOk C):SecOk (xaddO g f C):=by
 cases C with
 | none=>exact hf
 | some y=>exact xadd_ok hg hf hc
def sumI (co:Nat→Nat) (Cs:List (Option Sec)):Nat→Sec
 | 0=>sec []
 | k+1=>xaddO (co k) (sumI co Cs k) (Cs.getD k none)
def sumP (Cs:List (Option Sec)):Sec:=sumI (fun _=>1) Cs Cs.length
def sumQ (Cs:List (Option Sec)):Sec:=sumI expN Cs Cs.length
theorem sec0_ok:SecOk (sec []):=sec_ok (by simp)
theorem sumI_ok {co:Nat→Nat} {Cs:List (Option Sec)} (hco:∀ i,co i<256) (hc:∀ C∈Cs,ColOk C):∀ k,SecOk (sumI co Cs k)
 | 0=>sec0_ok
 | k+1=>xaddO_ok (hco k) (sumI_ok hco hc k) (by
   by_cases h:k<Cs.length
   ·rw [List.getD_eq_getElem?_getD,List.getElem?_eq_getElem h];exact hc _ (List.getElem_mem _)
   ·rw [List.getD_eq_getElem?_getD,List.getElem?_eq_none (by omega)];exact True.intro)
theorem expN_lt (i:Nat):expN i<256:=powN_lt (by omega)
def lostN (Cs:List (Option Sec)):Nat:=(Cs.filter Option.isNone).length
theorem lostN_append (a b:List (Option Sec)):lostN (a++b)=lostN a+lostN b:=by unfold lostN;rw [List.filter_append,List.length_append]
theorem lostN_le (Cs:List (Option Sec)):lostN Cs≤Cs.length:=List.length_filter_le _ _
theorem ColAt.keepB {w w':World} {S:Nat→Prop} {h:Option Addr×Nat×Nat}:∀ {C:Option Sec},ColAt w h C→Keep S w w'→(∀ k,k<w.heap.size→¬ S k)→ColAt w' h C
 | none,hc,_,_=>hc
 | some f,⟨h1,h2,h3,h4⟩,k,hS=>⟨h1,h2,h3,h4.keepB k hS⟩
theorem SlL.blk_lt {α:Type} {L:Lay α} {w:World} {b o l:Nat} {xs:List α} (h:SlL L w (some ⟨b,o,none⟩) l xs) (h0:0<l):b<w.heap.size:=by
 obtain ⟨b',o',hp,hc⟩:=h.2 0 (xs[0]'(by have:=h.1;omega)) (List.getElem?_eq_getElem _)
 cases hp
 have:=hc 0 L.pos
 refine Classical.byContradiction fun hn=>?_
 have hnone:w.heap[b]? = none:=Array.getElem?_eq_none (by omega)
 unfold World.cell? at this
 have hs:∃ v,(L.row (xs[0]'(by have:=h.1;omega)))[0]? = some v:=⟨_,List.getElem?_eq_getElem (by rw [L.len];exact L.pos)⟩
 obtain ⟨v,hv⟩:=hs
 simp_all
structure Cols (w:World) (p:Option Addr) (l:Nat) (hs:List (Option Addr×Nat×Nat)) (Cs:List (Option Sec)):Prop where
 sl:SlL hLay w p l hs
 len:hs.length=Cs.length
 at_:∀ (i:Nat) h C,hs[i]? = some h→Cs[i]? = some C→ColAt w h C
 ok:∀ C∈Cs,ColOk C
theorem Cols.keepB {w w':World} {S:Nat→Prop} {p:Option Addr} {l:Nat} {hs:List (Option Addr×Nat×Nat)} {Cs:List (Option Sec)} (h:Cols w p l hs Cs) (k:Keep S w w') (hS:∀ k,k<w.heap.size→¬ S k):Cols w' p l hs Cs :=
 ⟨h.sl.keepB k hS,h.len,fun i hh C h1 h2=>(h.at_ i hh C h1 h2).keepB k hS,h.ok⟩
section calls
variable {w:World} {R:Value→World→Prop}
theorem p_add {base b c:Nat} {e:TypeId} {f:Sec} {g:Nat} {h:Option Addr×Nat×Nat} {C:Option Sec} (ho:OwnL byLay w base e (some ⟨b,0,none⟩) 16 c (secB f)) (hf:SecOk f) (hc:ColAt w h C) (hok:ColOk C) (hg:g<256) (hne:∀ b' o,h.1=some ⟨b',o,none⟩→b'≠b)
  (hK:∀ w',OwnL byLay w' base e (some ⟨b,0,none⟩) 16 c (secB (xaddO g f C))→Keep (fun k=>k=b) w w'→R (.tuple #[]) w') :
  zB Tryz.prog 183 #[.slice (some ⟨b,0,none⟩) 16 c,.slice h.1 h.2.1 h.2.2,.int .u8 (g:Int)] w R:=by
 apply C_parity_add
 unfold F_parity_add
 cases C with
 | none =>
  have hc:h=(none,0,0):=hc
  subst hc
  refine LoopC_of (σ:=Int×Unit) (fun st w'=>st.1=0∧w'=w) (fun _ _=>0) ⟨rfl,rfl⟩ ?_
  rintro _ ⟨i,u⟩ w1 ⟨hi,hw⟩
  simp only at hi ⊢
  subst hi
  rw [hw]
  exact (Cb_false (p:=_)).2 (Ret_nil.2 (hK w ho (Keep.refl _ _)))
 | some y =>
  obtain ⟨⟨cb,co,hp⟩,hl,hcap,hs⟩:=hc
  obtain ⟨hp0,hl0,hc0⟩:=h
  simp only at hp hl hcap hs hne
  subst hp hl
  have hcb:=hne cb co rfl
  have hy:SecOk y:=hok
  refine LoopC_of (σ:=Int×Unit) (fun st w'=>∃ i:Nat,st.1=(i:Int)∧i≤16∧OwnL byLay w' base e (some ⟨b,0,none⟩) 16 c (secB fun k=>if k.val<i then xadd g f y k else f k)∧Keep (fun k=>k=b) w w') (fun st _=>(16-st.1).toNat)
   ⟨0,rfl,by omega,by simpa using ho,Keep.refl _ _⟩ ?_
  rintro _ ⟨i,u⟩ w1 ⟨i',hi,hil,o1,k1⟩
  simp only at hi ⊢
  subst hi
  refine Cb_of (fun hc=>?_) (fun hc=>?_)
  ·have hc:i'<16:=by
    have:(i':Int)<((16:Nat):Int):=by simpa using hc
    omega
   have s1:SlL byLay w1 (some ⟨cb,co,none⟩) 16 (secB y):=hs.keep k1 fun b' o' hp=>by cases hp;exact hcb
   refine s1.ld0 (i:=(i':Int)) (n:=1) (x:=y ⟨i',hc⟩) (v:=.int .u8 (y ⟨i',hc⟩)) rfl (by omega) (by rw [Int.toNat_natCast];exact get_secB y hc) rfl (zA.2 ?_)
   intro d _
   have kd:=Keep.drew (fun _=>False) w1 d
   have o1d:=o1.keep kd (by simp)
   have hget:=get_secB (fun k=>if k.val<i' then xadd g f y k else f k) hc
   simp only [Nat.lt_irrefl,if_false] at hget
   refine o1d.ld0 (i:=(i':Int)) (n:=1) (x:=f ⟨i',hc⟩) (v:=.int .u8 (f ⟨i',hc⟩)) rfl (by omega) (by rw [Int.toNat_natCast];exact hget) rfl (zA.2 ?_)
   have ny:=nat_of (hy ⟨i',hc⟩)
   have nf:=nat_of (hf ⟨i',hc⟩)
   have eM:CallS Tryz.prog 238 #[.int .u8 (g:Int),.int .u8 (y ⟨i',hc⟩)] (w1.dr d)=CallS Tryz.prog 238 #[.int .u8 (g:Int),.int .u8 (((y ⟨i',hc⟩).toNat:Nat):Int)] (w1.dr d):=by rw [← ny.1]
   rw [eM]
   refine CallS_of (V:=.int .u8 ((gmN g (y ⟨i',hc⟩).toNat:Nat):Int)) (g_Mul hg ny.2 ⟨rfl,rfl⟩) ?_
   refine zA.2 ?_
   have ex:ibits .xor .u8 (f ⟨i',hc⟩) ((gmN g (y ⟨i',hc⟩).toNat:Nat):Int)=xadd g f y ⟨i',hc⟩:=by
    have:=xor_u8 nf.2 (gmN_lt (b:=(y ⟨i',hc⟩).toNat) hg)
    rw [← nf.1] at this
    exact this
   rw [ex]
   refine o1d.stF (i:=(i':Int)) (n:=1) (t:=0) (x:=f ⟨i',hc⟩) (y:=xadd g f y ⟨i',hc⟩) rfl (by omega) (by rw [Int.toNat_natCast];exact hget) (by omega) rfl rfl fun w2 o2 k2 z2=>?_
   rw [Int.toNat_natCast,set_secB] at o2
   have e5:(fun k:Fin 16=>if k.val=i' then xadd g f y ⟨i',hc⟩ else if k.val<i' then xadd g f y k else f k)=fun k=>if k.val<i'+1 then xadd g f y k else f k:=by
    funext k
    by_cases h1:k.val=i'
    ·rw [if_pos h1,if_pos (by omega)]
     have:k=⟨i',hc⟩:=Fin.ext h1
     rw [this]
    ·rw [if_neg h1]
     by_cases h2:k.val<i'
     ·rw [if_pos h2,if_pos (by omega)]
     ·rw [if_neg h2,if_neg (by omega)]
   rw [e5] at o2
   have e3:IntKind.wrap .i64 ((i':Int)+1)=((i'+1:Nat):Int):=by rw [wrapI (by omega) (by omega)];omega
   refine ⟨_,by show (16-IntKind.wrap .i64 ((i':Int)+1)).toNat<(16-(i':Int)).toNat;rw [e3];omega,⟨i'+1,e3,by omega,o2,(k1.dr d).trans (k2.mono fun k hk=>?_)⟩,rfl⟩
   injection hk with hk
   injection hk with hk
   exact hk.symm
  ·have hc:i'=16:=by
    have:¬ (i':Int)<((16:Nat):Int):=by simpa using hc
    omega
   subst hc
   have e:(fun k:Fin 16=>if k.val<16 then xadd g f y k else f k)=xadd g f y:=by
    funext k
    rw [if_pos k.isLt]
   rw [e] at o1
   exact Ret_nil.2 (hK w1 o1 k1)
theorem run_mk16 (w:World):∃ w',(Instr.makeSlice 22 (.int .i64 16) (.int .i64 16)).run Tryz.prog w=.ok (.slice (some ⟨w.heap.size,0,none⟩) 16 16) w'∧OwnL byLay w' w.heap.size 5 (some ⟨w.heap.size,0,none⟩) 16 16 (secB (sec []))∧Keep (fun _=>False) w w'∧w'.heap.size=w.heap.size+1 :=
 run_makeL (P:=Tryz.prog) (L:=byLay) (x0:=0) (t:=22) (e:=5) (i:=(Tryz.prog.info? 5).get (by kernel_rfl)) (z:=((Tryz.prog.info? 5).get (by kernel_rfl)).zero.get (by kernel_rfl)) w (by kernel_rfl) (by kernel_rfl) (by kernel_rfl) (by kernel_rfl) (by kernel_rfl) 16 (by decide) (by rw [show ((Tryz.prog.info? 5).get (by kernel_rfl)).bytes=1 by kernel_rfl];decide) (by decide)
def SumT (colsp:Option Addr) (colsl:Nat) (p:Option Addr) (l c:Nat) (p1:Option Addr) (l1 c1:Nat) (w:World) (R:Value→World→Prop):Prop :=
 LoopC (σ:=Int×Unit) (fun _ s1 w K1=>Cb (decide (s1.1<((colsl:Nat):Int))) (IdxS colsp colsl s1.1
 1 fun b o=>LdV b o (At w) fun v2=>OpS v2 fun p2 l2 c2=>zB Tryz.prog 183 #[.slice p l c,.slice p2 l2 c2,.int .u8 1] w fun v3 w=>zB Tryz.prog 185 #[.int .i64
 s1.1] w fun v4 w=>OpI .u8 v4 fun n1=>zB Tryz.prog 183 #[.slice p1 l1 c1,.slice p2 l2 c2,.int .u8 n1] w fun v5 w=>K1 (IntKind.wrap .i64 (s1.1+1),()) w) (Ret []
 (R (.tuple #[.slice p l c,.slice p1 l1 c1]) w))) (0,()) w
theorem sumT {w0:World} {colsp:Option Addr} {colsl bp bq:Nat} {hs:List (Option Addr×Nat×Nat)} {Cs:List (Option Sec)} (hc:Cols w0 colsp colsl hs Cs) (hl:colsl≤200) (k0:Keep (fun _=>False) w0 w) (hbp:w0.heap.size≤bp) (hbq:w0.heap.size≤bq) (hne:bp≠bq)
  (hp:OwnL byLay w w0.heap.size 5 (some ⟨bp,0,none⟩) 16 16 (secB (sec []))) (hq:OwnL byLay w w0.heap.size 5 (some ⟨bq,0,none⟩) 16 16 (secB (sec [])))
  (hK:∀ w',OwnL byLay w' w0.heap.size 5 (some ⟨bp,0,none⟩) 16 16 (secB (sumP Cs))→OwnL byLay w' w0.heap.size 5 (some ⟨bq,0,none⟩) 16 16 (secB (sumQ Cs))→Keep (fun _=>False) w0 w'→R (.tuple #[.slice (some ⟨bp,0,none⟩) 16 16,.slice (some ⟨bq,0,none⟩) 16 16]) w') :
  SumT colsp colsl (some ⟨bp,0,none⟩) 16 16 (some ⟨bq,0,none⟩) 16 16 w R:=by
 unfold SumT
 have hlen:=hc.sl.1
 have hlc:=hc.len
 refine LoopC_of (σ:=Int×Unit) (fun st w'=>∃ i:Nat,st.1=(i:Int)∧i≤colsl∧OwnL byLay w' w0.heap.size 5 (some ⟨bp,0,none⟩) 16 16 (secB (sumI (fun _=>1) Cs i))∧OwnL byLay w' w0.heap.size 5 (some ⟨bq,0,none⟩) 16 16 (secB (sumI expN Cs i))∧Keep (fun _=>False) w0 w') (fun st _=>(colsl-st.1).toNat)
  ⟨0,rfl,by omega,hp,hq,k0⟩ ?_
 rintro _ ⟨i,u⟩ w1 ⟨i',hi,hil,o1,o2,k1⟩
 simp only at hi ⊢
 subst hi
 refine Cb_of (fun hcc=>?_) (fun hcc=>?_)
 ·have hcc:i'<colsl:=by
   have:(i':Int)<(colsl:Int):=by simpa using hcc
   omega
  obtain ⟨h,hh⟩:∃ h,hs[i']? = some h:=⟨_,List.getElem?_eq_getElem (by omega)⟩
  obtain ⟨C,hC⟩:∃ C,Cs[i']? = some C:=⟨_,List.getElem?_eq_getElem (by omega)⟩
  have hcat:=hc.at_ i' h C hh hC
  have hcok:=hc.ok C (List.mem_of_getElem? hC)
  have hblk:∀ b' o,h.1=some ⟨b',o,none⟩→b'<w0.heap.size:=by
   intro b' o hp
   cases C with
   | none =>
    have:h=(none,0,0):=hcat
    rw [this] at hp
    cases hp
   | some f =>
    obtain ⟨_,_,_,hs4⟩:=hcat
    rw [hp] at hs4
    exact SlL.blk_lt hs4 (by omega)
  have hg:Cs.getD i' none=C:=by rw [List.getD_eq_getElem?_getD,hC];rfl
  refine (hc.sl.keepB k1 (by simp)).ld0 (i:=(i':Int)) (n:=1) (x:=h) (v:=.slice h.1 h.2.1 h.2.2) rfl (by omega) (by simpa using hh) rfl (zC.2 ?_)
  refine p_add (g:=1) o1 (sumI_ok (fun _=>by omega) hc.ok i') (hcat.keepB k1 (by simp)) hcok (by omega) (fun b' o hp=>by have:=hblk b' o hp;omega) fun w2 o3 k2=>?_
  refine g_Exp (by omega) (zA.2 ?_)
  have k02:Keep (fun _=>False) w0 w2:=k1.trans' k2 fun k hk e=>by omega
  have o2':OwnL byLay w2 w0.heap.size 5 (some ⟨bq,0,none⟩) 16 16 (secB (sumI expN Cs i')):=o2.keep k2 fun k hk e=>by
   injection hk with hk
   injection hk with hk
   omega
  refine p_add (g:=expN i') o2' (sumI_ok expN_lt hc.ok i') (hcat.keepB k02 (by simp)) hcok (expN_lt i') (fun b' o hp=>by have:=hblk b' o hp;omega) fun w3 o4 k3=>?_
  have o3':OwnL byLay w3 w0.heap.size 5 (some ⟨bp,0,none⟩) 16 16 (secB (xaddO 1 (sumI (fun _=>1) Cs i') C)):=o3.keep k3 fun k hk e=>by
   injection hk with hk
   injection hk with hk
   omega
  have e3:IntKind.wrap .i64 ((i':Int)+1)=((i'+1:Nat):Int):=by rw [wrapI (by omega) (by omega)];omega
  refine ⟨_,by show ((colsl:Int)-IntKind.wrap .i64 ((i':Int)+1)).toNat<((colsl:Int)-(i':Int)).toNat;rw [e3];omega,⟨i'+1,e3,by omega,?_,?_,k02.trans' k3 fun k hk e=>by omega⟩,rfl⟩
  ·show OwnL byLay w3 _ _ _ 16 16 (secB (xaddO 1 (sumI (fun _=>1) Cs i') (Cs.getD i' none)))
   rw [hg];exact o3'
  ·show OwnL byLay w3 _ _ _ 16 16 (secB (xaddO (expN i') (sumI expN Cs i') (Cs.getD i' none)))
   rw [hg];exact o4
 ·have hcc:i'=colsl:=by
   have:¬ (i':Int)<(colsl:Int):=by simpa using hcc
   omega
  have e:i'=Cs.length:=by omega
  rw [e] at o1 o2
  exact Ret_nil.2 (hK w1 o1 o2 k1)
theorem p_sums {colsp:Option Addr} {colsl colsc:Nat} {hs:List (Option Addr×Nat×Nat)} {Cs:List (Option Sec)} (hc:Cols w colsp colsl hs Cs) (hl:colsl≤200)
  (hK:∀ bp bq w',bp≠bq→w.heap.size≤bp→w.heap.size≤bq→OwnL byLay w' w.heap.size 5 (some ⟨bp,0,none⟩) 16 16 (secB (sumP Cs))→OwnL byLay w' w.heap.size 5 (some ⟨bq,0,none⟩) 16 16 (secB (sumQ Cs))→Keep (fun _=>False) w w'→R (.tuple #[.slice (some ⟨bp,0,none⟩) 16 16,.slice (some ⟨bq,0,none⟩) 16 16]) w') :
  zB Tryz.prog 182 #[.slice colsp colsl colsc,.int .i64 16] w R:=by
 apply C_parity_sums
 unfold F_parity_sums
 intro d
 have kd:=Keep.drew (fun _=>False) w d
 refine ⟨fun _=>True,trivial,?_,?_⟩
 ·obtain ⟨w1,hr1,o1,k1,z1⟩:=run_mk16 (w.dr d)
  refine ⟨_,_,hr1,zC.2 ⟨trivial,?_⟩⟩
  obtain ⟨w2,hr2,o2,k2,z2⟩:=run_mk16 w1
  refine ⟨_,_,hr2,zC.2 ⟨trivial,?_⟩⟩
  have z1:w1.heap.size=w.heap.size+1:=z1
  have e0:(w.dr d).heap.size=w.heap.size:=rfl
  rw [e0] at o1
  exact sumT hc hl ((kd.trans k1).trans k2) (by rw [e0];omega) (by omega) (by rw [e0];omega) (o1.keep k2 (by simp)) (o2.rebase (by omega)) fun w3 o3 o4 k3=>hK _ _ w3 (by rw [e0];omega) (by rw [e0];omega) (by omega) o3 o4 k3
 ·obtain ⟨w1,hr1,o1,k1,z1⟩:=run_mk16 (w.dr d)
  refine ⟨_,_,hr1,zC.2 ⟨trivial,?_⟩⟩
  obtain ⟨w2,hr2,o2,k2,z2⟩:=run_mk16 w1
  refine ⟨_,_,hr2,zC.2 ⟨trivial,?_⟩⟩
  have z1:w1.heap.size=w.heap.size+1:=z1
  have e0:(w.dr d).heap.size=w.heap.size:=rfl
  rw [e0] at o1
  exact sumT hc hl ((kd.trans k1).trans k2) (by omega) (by rw [e0];omega) (by rw [e0];omega) (o2.rebase (by omega)) (o1.keep k2 (by simp)) fun w3 o3 o4 k3=>hK _ _ w3 (by rw [e0];omega) (by omega) (by rw [e0];omega) o3 o4 k3
theorem p_width {colsp mp:Option Addr} {colsl colsc ml mc:Nat} {hs hs2:List (Option Addr×Nat×Nat)} {Cs Ms:List (Option Sec)} (hc:Cols w colsp colsl hs Cs) (hm:Cols w mp ml hs2 Ms) (h1:1≤colsl) (h2:colsl≤30) (hml:ml≤10) (hsome:∃ f,some f∈Cs++Ms)
  (hK:∀ w',Keep (fun _=>False) w w'→R (.tuple #[.int .i64 16,.int .i64 ((lostN (Cs++Ms):Nat):Int)]) w') :
  zB Tryz.prog 180 #[.slice colsp colsl colsc,.slice mp ml mc] w R:=by
 apply C_parity_width
 unfold F_parity_width
 rw [decide_eq_false (show ¬ ((colsl:Nat):Int)<1 by omega)]
 refine (Cb_false (p:=_)).2 ?_
 rw [decide_eq_false (show ¬ ((colsl:Nat):Int)>30 by omega)]
 refine (Cb_false (p:=_)).2 ?_
 refine ⟨_,_,bsl_hh2 _ _ _ _ _ _ w,zC.2 ?_⟩
 have k1:=Keep.new (fun _=>False) w (.cells #[.slice colsp colsl colsc,.slice mp ml mc] 187)
 have hb1:=Has.new w (.cells #[.slice colsp colsl colsc,.slice mp ml mc] 187)
 generalize w.alloc (.cells #[.slice colsp colsl colsc,.slice mp ml mc] 187)=w1 at *
 have hc1:=hc.keepB k1 (by simp)
 have hm1:=hm.keepB k1 (by simp)
 refine concatB hb1 hc1.sl hm1.sl (by omega) (by omega) fun p c w2 o2 k2=>?_
 refine zC.2 ?_
 have k02:=k1.trans k2
 have e1:=hc.sl.1
 have e2:=hm.sl.1
 have e3:=hc.len
 have e4:=hm.len
 have hat:∀ (i:Nat) h C,(hs++hs2)[i]? = some h→(Cs++Ms)[i]? = some C→ColAt w2 h C:=by
  intro i h C hh hC
  by_cases hi:i<hs.length
  ·rw [List.getElem?_append_left hi] at hh
   rw [List.getElem?_append_left (by omega)] at hC
   exact (hc.at_ i h C hh hC).keep k02
  ·rw [List.getElem?_append_right (by omega)] at hh
   rw [List.getElem?_append_right (by omega),← e3] at hC
   exact (hm.at_ _ h C hh hC).keep k02
 have hll:(hs++hs2).length=(Cs++Ms).length:=by simp [e3,e4]
 have hl200:(hs++hs2).length≤200:=by rw [List.length_append];omega
 generalize hs++hs2=H at *
 generalize Cs++Ms=Z at *
 have tk:∀ {k:Nat} {C:Option Sec},Z[k]? = some C→Z.take (k+1)=Z.take k++[C]:=fun h=>by rw [List.take_add_one,h];rfl
 refine LoopC_of (σ:=Int×Int×Int×Unit) (fun st w'=>w'=w2∧∃ i:Nat,st.2.2.1=(i:Int)∧i≤H.length∧st.2.1=((lostN (Z.take i):Nat):Int)∧((st.1=16∧∃ f,some f∈Z.take i)∨(st.1=0∧∀ f,some f ∉ Z.take i))) (fun st _=>(H.length-st.2.2.1).toNat)
  ⟨rfl,0,rfl,by omega,rfl,Or.inr ⟨rfl,by simp⟩⟩ ?_
 rintro _ ⟨n,lo,i,u⟩ w3 ⟨hw,i',hi,hil,hlo,hn⟩
 simp only at hi hlo hn ⊢
 subst hi hlo
 rw [hw]
 clear hw
 refine Cb_of (fun hcc=>?_) (fun hcc=>?_)
 ·have hcc:i'<H.length:=by
   have:(i':Int)<(H.length:Int):=by simpa using hcc
   omega
  obtain ⟨h,hh⟩:∃ h,H[i']? = some h:=⟨_,List.getElem?_eq_getElem hcc⟩
  obtain ⟨C,hC⟩:∃ C,Z[i']? = some C:=⟨_,List.getElem?_eq_getElem (by omega)⟩
  have hcat:=hat i' h C hh hC
  have hlt:=lostN_le (Z.take i')
  rw [List.length_take] at hlt
  have e5:IntKind.wrap .i64 ((i':Int)+1)=((i'+1:Nat):Int):=by rw [wrapI (by omega) (by omega)];omega
  have hmu:((H.length:Int)-IntKind.wrap .i64 ((i':Int)+1)).toNat<((H.length:Int)-(i':Int)).toNat:=by rw [e5];omega
  refine o2.ld0 (i:=(i':Int)) (n:=1) (x:=h) (v:=.slice h.1 h.2.1 h.2.2) rfl (by omega) (by simpa using hh) rfl (zC.2 ?_)
  have htk:=tk hC
  cases C with
  | none =>
   have hcat:h=(none,0,0):=hcat
   subst hcat
   refine (Cb_true (q:=_)).2 ?_
   have e6:IntKind.wrap .i64 (((lostN (Z.take i'):Nat):Int)+1)=((lostN (Z.take (i'+1)):Nat):Int):=by
    rw [wrapI (by omega) (by omega),htk,lostN_append]
    show _=((lostN (Z.take i')+1:Nat):Int)
    omega
   refine ⟨_,hmu,⟨by trivial,i'+1,e5,by omega,e6,?_⟩,rfl⟩
   rcases hn with ⟨h1,f,h2⟩ | ⟨h1,h2⟩
   ·exact Or.inl ⟨h1,f,by rw [htk];simp [h2]⟩
   ·exact Or.inr ⟨h1,fun f hf=>by rw [htk] at hf;simp at hf;exact h2 f hf⟩
  | some f =>
   obtain ⟨_,hl16,_,_⟩:=hcat
   rw [hl16]
   refine (Cb_false (p:=_)).2 ?_
   have e6:((lostN (Z.take i'):Nat):Int)=((lostN (Z.take (i'+1)):Nat):Int):=by
    rw [htk,lostN_append]
    show _=((lostN (Z.take i')+0:Nat):Int)
    rfl
   rcases hn with ⟨h1,f',h2⟩ | ⟨h1,h2⟩
   ·subst h1
    refine (Cb_false (p:=_)).2 ((Cb_false (p:=_)).2 ?_)
    exact ⟨_,hmu,⟨by trivial,i'+1,e5,by omega,e6,Or.inl ⟨rfl,f,by rw [htk];simp⟩⟩,rfl⟩
   ·subst h1
    refine (Cb_true (q:=_)).2 ?_
    exact ⟨_,hmu,⟨by trivial,i'+1,e5,by omega,e6,Or.inl ⟨rfl,f,by rw [htk];simp⟩⟩,rfl⟩
 ·have hcc:i'=H.length:=by
   have:¬ (i':Int)<(H.length:Int):=by simpa using hcc
   omega
  subst hcc
  have e7:Z.take H.length=Z:=List.take_of_length_le (by omega)
  rw [e7] at hn ⊢
  rcases hn with ⟨h1,_⟩ | ⟨_,h2⟩
  ·subst h1
   exact (Cb_false (p:=_)).2 (Ret_nil.2 (hK w2 k02))
  ·obtain ⟨f,hf⟩:=hsome
   exact absurd hf (h2 f)
theorem p_Encode {colsp:Option Addr} {colsl colsc:Nat} {hs:List (Option Addr×Nat×Nat)} {Cs:List (Option Sec)} (hc:Cols w colsp colsl hs Cs) (h1:1≤colsl) (h2:colsl≤30) (hall:lostN Cs=0)
  (hK:∀ bp bq w',bp≠bq→w.heap.size≤bp→w.heap.size≤bq→OwnL byLay w' w.heap.size 5 (some ⟨bp,0,none⟩) 16 16 (secB (sumP Cs))→OwnL byLay w' w.heap.size 5 (some ⟨bq,0,none⟩) 16 16 (secB (sumQ Cs))→Keep (fun _=>False) w w'→R (.tuple #[.slice (some ⟨bp,0,none⟩) 16 16,.slice (some ⟨bq,0,none⟩) 16 16,.int .i64 0]) w') :
  zB Tryz.prog 115 #[.slice colsp colsl colsc] w R:=by
 apply C_parity_Encode
 unfold F_parity_Encode
 have hll:=hc.sl.1
 have hlc:=hc.len
 have hsome:∃ f,some f∈Cs++[]:=by
  have h0:0<Cs.length:=by omega
  rw [List.append_nil]
  cases hC:Cs[0] with
  | some f=>exact ⟨f,by rw [← hC];exact List.getElem_mem _⟩
  | none =>
   have:none∈Cs.filter Option.isNone:=List.mem_filter.2 ⟨by rw [← hC];exact List.getElem_mem _,rfl⟩
   have h3:0<(Cs.filter Option.isNone).length:=List.length_pos_of_mem this
   unfold lostN at hall
   omega
 refine p_width (mp:=none) (ml:=0) (mc:=0) (hs2:=[]) (Ms:=[]) hc ⟨SlL.nil,rfl,by simp,by simp⟩ h1 h2 (by omega) hsome fun w1 k1=>?_
 rw [List.append_nil,hall]
 refine T2_mk.2 (zA.2 (zA.2 ⟨rfl,rfl,(Cb_false (p:=_)).2 ?_⟩))
 refine p_sums (hc.keepB k1 (by simp)) (by omega) fun bp bq w2 hne hbp hbq o1 o2 k2=>?_
 refine T2_mk.2 (zC.2 (zC.2 (Ret_nil.2 ?_)))
 have:=k1.size
 exact hK bp bq w2 hne (by omega) (by omega) (o1.rebase this) (o2.rebase this) (k1.trans k2)
end calls
def isGone:Option (Option Sec)→Bool
 | some none=>true
 | _=>false
theorem isGone_iff {C:Option (Option Sec)}:isGone C=true ↔ C=some none:=by
 cases C with
 | none=>simp [isGone]
 | some x=>cases x <;> simp [isGone]
def goneI (Cs:List (Option Sec)):Nat→List Int
 | 0=>[]
 | k+1=>goneI Cs k++(if isGone Cs[k]? = true then [(k:Int)] else [])
def goneL (Cs:List (Option Sec)):List Int:=goneI Cs Cs.length
theorem goneI_lt (Cs:List (Option Sec)):∀ k,∀ x∈goneI Cs k,∃ n:Nat,x=(n:Int)∧n<k∧Cs[n]? = some none
 | 0,x,h=>by simp [goneI] at h
 | k+1,x,h=>by
  unfold goneI at h
  rcases List.mem_append.1 h with h | h
  ·obtain ⟨n,h1,h2,h3⟩:=goneI_lt Cs k x h
   exact ⟨n,h1,by omega,h3⟩
  ·split at h
   ·rename_i hn
    rw [List.mem_singleton.1 h]
    exact ⟨k,rfl,by omega,isGone_iff.1 hn⟩
   ·simp at h
theorem goneI_len (Cs:List (Option Sec)):∀ k,k≤Cs.length→(goneI Cs k).length=lostN (Cs.take k)
 | 0,_=>by simp [goneI,lostN]
 | k+1,h=>by
  have ih:=goneI_len Cs k (by omega)
  obtain ⟨C,hC⟩:∃ C,Cs[k]? = some C:=⟨_,List.getElem?_eq_getElem (by omega)⟩
  unfold goneI
  rw [List.length_append,ih,List.take_add_one,hC,lostN_append]
  cases C with
  | none=>rw [if_pos (show isGone (some none)=true from rfl)];rfl
  | some f=>rw [if_neg (by simp [isGone])];rfl
theorem goneL_len (Cs:List (Option Sec)):(goneL Cs).length=lostN Cs:=by
 unfold goneL
 rw [goneI_len Cs _ (Nat.le_refl _),List.take_of_length_le (Nat.le_refl _)]
theorem goneI_sorted (Cs:List (Option Sec)):∀ k,(goneI Cs k).Pairwise (·<·)
 | 0=>by simp [goneI]
 | k+1=>by
  unfold goneI
  rw [List.pairwise_append]
  refine ⟨goneI_sorted Cs k,by split <;> simp,fun x hx y hy=>?_⟩
  obtain ⟨n,h1,h2,_⟩:=goneI_lt Cs k x hx
  split at hy
  ·rw [List.mem_singleton.1 hy];omega
  ·simp at hy
def missP (Cs:List (Option Sec)) (Pc:Option Sec):Sec:=xaddO 1 (sumP Cs) Pc
def missQ (Cs:List (Option Sec)) (Qc:Option Sec):Sec:=xaddO 1 (sumQ Cs) Qc
def solX (i j s t:Nat):Nat:=gmN (powN (gmN 1 (expN j) ^^^ gmN 1 (expN i)) 254) (gmN (expN j) s ^^^ gmN 1 t)
def solY (i j s t:Nat):Nat:=gmN (powN (gmN 1 (expN j) ^^^ gmN 1 (expN i)) 254) (gmN 1 t ^^^ gmN (expN i) s)
def secX (i j:Nat) (S T:Sec):Sec:=fun k=>((solX i j (S k).toNat (T k).toNat:Nat):Int)
def secY (i j:Nat) (S T:Sec):Sec:=fun k=>((solY i j (S k).toNat (T k).toNat:Nat):Int)
def fixC (Cs:List (Option Sec)) (Pc Qc:Option Sec):List (Option Sec) :=
 match goneL Cs with
 | [i]=>if Pc.isSome=true then Cs.set i.toNat (some (missP Cs Pc)) else Cs.set i.toNat (some (xadd (powN (expN i.toNat) 254) (sec []) (missQ Cs Qc)))
 | [i,j]=>(Cs.set i.toNat (some (secX i.toNat j.toNat (missP Cs Pc) (missQ Cs Qc)))).set j.toNat (some (secY i.toNat j.toNat (missP Cs Pc) (missQ Cs Qc)))
 | _=>Cs
theorem len_fixC (Cs:List (Option Sec)) (Pc Qc:Option Sec):(fixC Cs Pc Qc).length=Cs.length:=by
 unfold fixC
 split
 ·split <;> simp
 ·simp
 ·rfl
theorem miss_ok {Cs:List (Option Sec)} {Pc:Option Sec} (h:∀ C∈Cs,ColOk C) (hp:ColOk Pc):SecOk (missP Cs Pc)∧SecOk (missQ Cs Pc) :=
 ⟨xaddO_ok (by omega) (sumI_ok (fun _=>by omega) h _) hp,xaddO_ok (by omega) (sumI_ok expN_lt h _) hp⟩
theorem solX_lt {i j s t:Nat}:solX i j s t<256:=gmN_lt (powN_lt (xor_lt8 (gmN_lt (by omega)) (gmN_lt (by omega))))
theorem solY_lt {i j s t:Nat}:solY i j s t<256:=gmN_lt (powN_lt (xor_lt8 (gmN_lt (by omega)) (gmN_lt (by omega))))
theorem secX_ok (i j:Nat) (S T:Sec):SecOk (secX i j S T):=fun k=>by
 have:solX i j (S k).toNat (T k).toNat<256:=solX_lt
 unfold secX;omega
theorem secY_ok (i j:Nat) (S T:Sec):SecOk (secY i j S T):=fun k=>by
 have:solY i j (S k).toNat (T k).toNat<256:=solY_lt
 unfold secY;omega
theorem mem_set {α:Type} {l:List α} {i:Nat} {a x:α} (h:x∈l.set i a):x=a∨x∈l:=by
 rcases List.mem_or_eq_of_mem_set h with h | h
 ·exact Or.inr h
 ·exact Or.inl h
theorem fixC_ok {Cs:List (Option Sec)} {Pc Qc:Option Sec} (h:∀ C∈Cs,ColOk C) (hp:ColOk Pc) (hq:ColOk Qc):∀ C∈fixC Cs Pc Qc,ColOk C:=by
 intro C hC
 unfold fixC at hC
 split at hC
 ·split at hC
  ·rcases mem_set hC with rfl | hC
   ·exact (miss_ok h hp).1
   ·exact h C hC
  ·rcases mem_set hC with rfl | hC
   ·exact xadd_ok (powN_lt (expN_lt _)) sec0_ok (miss_ok h hq).2
   ·exact h C hC
 ·rcases mem_set hC with rfl | hC
  ·exact secY_ok _ _ _ _
  ·rcases mem_set hC with rfl | hC
   ·exact secX_ok _ _ _ _
   ·exact h C hC
 ·exact h C hC
def nLay:Lay Int:=⟨1,fun y=>[.int .i64 y],fun _=>rfl,fun y v hv=>by rw [List.mem_singleton.1 hv];rfl,by decide⟩
theorem nLayT:LayT Tryz.prog nLay 69 3 8:=⟨by kernel_rfl,⟨(Tryz.prog.info? 3).get (by kernel_rfl),((Tryz.prog.info? 3).get (by kernel_rfl)).zero.get (by kernel_rfl),by kernel_rfl,by kernel_rfl,by kernel_rfl,by kernel_rfl,by kernel_rfl⟩⟩
theorem bsl_n1 (x:Int) (w:World):(Instr.buildSlice 69 1 #[(0,.int .i64 x)]).run Tryz.prog w=.ok (.slice (some ⟨w.heap.size,0,none⟩) 1 1) (w.alloc (.cells #[.int .i64 x] 3)) :=
 run_buildSlice w 69 3 1 _ #[.int .i64 x] ((Tryz.prog.info? 3).get (by kernel_rfl)) (((Tryz.prog.info? 3).get (by kernel_rfl)).zero.get (by kernel_rfl)) (by kernel_rfl) (by kernel_rfl) (by kernel_rfl) (by decide +kernel) (by decide +kernel) (by kernel_rfl)
theorem OwnL.ne {α β:Type} {L:Lay α} {M:Lay β} {w:World} {b1 b2:Nat} {e1 e2:TypeId} {p q:Option Addr} {l c m d:Nat} {xs:List α} {ys:List β} (h1:OwnL L w b1 e1 p l c xs) (h2:OwnL M w b2 e2 q m d ys) (hne:e1≠e2) {k:Nat} (hp:p=some ⟨k,0,none⟩):¬ q=some ⟨k,0,none⟩:=by
 intro hq
 rcases Own.cases h1 with ⟨h0,_⟩ | ⟨b',cur,h0,_,hg,_⟩
 ·rw [h0] at hp;cases hp
 ·rcases Own.cases h2 with ⟨g0,_⟩ | ⟨b2',cur2,g0,_,hg2,_⟩
  ·rw [g0] at hq;cases hq
  ·rw [h0] at hp;cases hp
   rw [g0] at hq;cases hq
   have:=Has.inj hg hg2
   simp only [Obj.cells.injEq] at this
   exact hne this.2.1
def TwoT (pg:Option Addr) (lg:Nat) (ps:Option Addr) (ls:Nat) (pt:Option Addr) (lt:Nat) (px:Option Addr) (lx cx:Nat) (py:Option Addr) (ly cy:Nat) (pa:Option Addr) (la:Nat) (w:World) (J:Unit→World→Prop):Prop :=
 LoopC (σ:=Int×Unit) (fun _ s4 w K4=>Cb (decide (s4.1<16)) (HeldR w fun S w=>IdxS pg lg 0 1 fun b6 o6=>LdV b6 o6 S fun v26=>OpI .i64 v26 fun n8=>IdxS pg lg 1 1 fun b7 o7=>LdV b7 o7 S fun v27=>OpI .i64 v27 fun n9=>IdxS ps ls s4.1 1 fun b8 o8=>LdV
 b8 o8 S fun v28=>OpI .u8 v28 fun n10=>IdxS pt lt s4.1 1 fun b9 o9=>LdV b9 o9 S fun v29=>OpI .u8 v29 fun n11=>zB Tryz.prog 185 #[.int .i64 n8] w fun v30 w=>OpI
 .u8 v30 fun n12=>Hld (S w) (zB Tryz.prog 185 #[.int .i64 n9] w fun v31 w=>OpI .u8 v31 fun n13=>Hld (S w) (zB Tryz.prog 186 #[.int .u8 1,.int .u8 1,.int .u8 n12,
 .int .u8 n13,.int .u8 n10,.int .u8 n11] w fun v32 w=>T3 v32 fun v33 v34 v35=>OpI .u8 v33 fun n14=>OpI .u8 v34 fun n15=>OpI .i64 v35 fun n16=>Hld (S w) (IdxS
 px lx s4.1 1 fun b10 o10=>StV b10 o10 (.int .u8 n14) w fun w=>Hld (S w) (IdxS py ly s4.1 1 fun b11 o11=>StV b11 o11 (.int .u8 n15) w fun w=>Hld (S w) (K4
 (IntKind.wrap .i64 (s4.1+1),()) w)))))) (HeldR w fun S w=>IdxS pg lg 0 1 fun b12 o12=>LdV b12 o12 (At w) fun v36=>OpI .i64 v36 fun n17=>IdxS
 pg lg 1 1 fun b13 o13=>LdV b13 o13 (At w) fun v37=>OpI .i64 v37 fun n18=>IdxS pa la n17 1 fun b14 o14=>StV b14 o14 (.slice px lx cx) w
 fun w=>Hld (S w) (IdxS pa la n18 1 fun b15 o15=>StV b15 o15 (.slice py ly cy) w fun w=>Hld (S w) (J () w)))) (0,()) w
section calls
variable {w:World}
theorem twoT {base:Nat} {pg pa:Option Addr} {cg la ca bs bt bx by_ i j:Nat} {Hs:List (Option Addr×Nat×Nat)} {S T:Sec} {J:Unit→World→Prop} (hS:SecOk S) (hT:SecOk T) (hi:i<30) (hj:j<30) (hij:i≠j) (hia:i<la) (hja:j<la)
  (og:OwnL nLay w base 3 pg 2 cg [(i:Int),(j:Int)]) (os:OwnL byLay w base 5 (some ⟨bs,0,none⟩) 16 16 (secB S)) (ot:OwnL byLay w base 5 (some ⟨bt,0,none⟩) 16 16 (secB T))
  (ox:OwnL byLay w base 5 (some ⟨bx,0,none⟩) 16 16 (secB (sec []))) (oy:OwnL byLay w base 5 (some ⟨by_,0,none⟩) 16 16 (secB (sec []))) (oa:OwnL hLay w base 22 pa la ca Hs)
  (nxy:bx≠by_) (nxs:bx≠bs) (nxt:bx≠bt) (nys:by_≠bs) (nyt:by_≠bt)
  (hK:∀ w',OwnL hLay w' base 22 pa la ca ((Hs.set i (some ⟨bx,0,none⟩,16,16)).set j (some ⟨by_,0,none⟩,16,16))→OwnL byLay w' base 5 (some ⟨bx,0,none⟩) 16 16 (secB (secX i j S T))→OwnL byLay w' base 5 (some ⟨by_,0,none⟩) 16 16 (secB (secY i j S T))→Keep (fun k=>k=bx∨k=by_∨pa=some ⟨k,0,none⟩) w w'→J () w') :
  TwoT pg 2 (some ⟨bs,0,none⟩) 16 (some ⟨bt,0,none⟩) 16 (some ⟨bx,0,none⟩) 16 16 (some ⟨by_,0,none⟩) 16 16 pa la w J:=by
 unfold TwoT
 have gx:¬ pg=some ⟨bx,0,none⟩:=OwnL.ne ox og (by decide) rfl
 have gy:¬ pg=some ⟨by_,0,none⟩:=OwnL.ne oy og (by decide) rfl
 refine LoopC_of (σ:=Int×Unit) (fun st w'=>∃ k:Nat,st.1=(k:Int)∧k≤16∧OwnL byLay w' base 5 (some ⟨bx,0,none⟩) 16 16 (secB fun a=>if a.val<k then secX i j S T a else sec [] a)∧OwnL byLay w' base 5 (some ⟨by_,0,none⟩) 16 16 (secB fun a=>if a.val<k then secY i j S T a else sec [] a)∧Keep (fun k=>k=bx∨k=by_) w w') (fun st _=>(16-st.1).toNat)
  ⟨0,rfl,by omega,by simpa using ox,by simpa using oy,Keep.refl _ _⟩ ?_
 rintro _ ⟨k,u⟩ w1 ⟨k',hk,hkl,x1,y1,k1⟩
 simp only at hk ⊢
 subst hk
 have og1:=og.keep k1 fun a ha hb=>by
  rcases hb with e | e
  ·exact gx (e ▸ ha)
  ·exact gy (e ▸ ha)
 have os1:=os.keep k1 fun a ha hb=>by
  injection ha with ha
  injection ha with ha
  omega
 have ot1:=ot.keep k1 fun a ha hb=>by
  injection ha with ha
  injection ha with ha
  omega
 refine Cb_of (fun hc=>?_) (fun hc=>?_)
 ·have hc:k'<16:=by
   have:(k':Int)<16:=by simpa using hc
   omega
  intro d
  have kd:=Keep.drew (fun _=>False) w1 d
  have C0:OwnL nLay (w1.dr d) base 3 pg 2 cg [(i:Int),(j:Int)]∧OwnL byLay (w1.dr d) base 5 (some ⟨bs,0,none⟩) 16 16 (secB S)∧OwnL byLay (w1.dr d) base 5 (some ⟨bt,0,none⟩) 16 16 (secB T):=⟨og1.keep kd (by simp),os1.keep kd (by simp),ot1.keep kd (by simp)⟩
  refine ⟨fun w'=>OwnL nLay w' base 3 pg 2 cg [(i:Int),(j:Int)]∧OwnL byLay w' base 5 (some ⟨bs,0,none⟩) 16 16 (secB S)∧OwnL byLay w' base 5 (some ⟨bt,0,none⟩) 16 16 (secB T),C0,?_⟩
  have hgs:=get_secB S hc
  have hgt:=get_secB T hc
  refine SlL.ldSd C0 (fun w' hw=>hw.1.sl) (i:=0) (x:=(i:Int)) (n:=1) (v:=.int .i64 (i:Int)) rfl (by omega) rfl rfl (zA.2 ?_)
  refine SlL.ldSd C0 (fun w' hw=>hw.1.sl) (i:=1) (x:=(j:Int)) (n:=1) (v:=.int .i64 (j:Int)) rfl (by omega) rfl rfl (zA.2 ?_)
  refine SlL.ldSd C0 (fun w' hw=>hw.2.1.sl) (i:=(k':Int)) (x:=S ⟨k',hc⟩) (n:=1) (v:=.int .u8 (S ⟨k',hc⟩)) rfl (by omega) (by rw [Int.toNat_natCast];exact hgs) rfl (zA.2 ?_)
  refine SlL.ldSd C0 (fun w' hw=>hw.2.2.sl) (i:=(k':Int)) (x:=T ⟨k',hc⟩) (n:=1) (v:=.int .u8 (T ⟨k',hc⟩)) rfl (by omega) (by rw [Int.toNat_natCast];exact hgt) rfl (zA.2 ?_)
  refine g_Exp (by omega) (zA.2 ⟨C0,?_⟩)
  refine g_Exp (by omega) (zA.2 ⟨C0,?_⟩)
  have nS:=nat_of (hS ⟨k',hc⟩)
  have nT:=nat_of (hT ⟨k',hc⟩)
  have hdet:gmN 1 (expN j) ^^^ gmN 1 (expN i)≠0:=by rw [gm_one exp_lt,gm_one exp_lt];exact exp_ne hi hj hij
  have eM:∀ K,zB Tryz.prog 186 #[.int .u8 1,.int .u8 1,.int .u8 ((expN i:Nat):Int),.int .u8 ((expN j:Nat):Int),.int .u8 (((S ⟨k',hc⟩).toNat:Nat):Int),.int .u8 (((T ⟨k',hc⟩).toNat:Nat):Int)] (w1.dr d) K→zB Tryz.prog 186 #[.int .u8 1,.int .u8 1,.int .u8 ((expN i:Nat):Int),.int .u8 ((expN j:Nat):Int),.int .u8 (S ⟨k',hc⟩),.int .u8 (T ⟨k',hc⟩)] (w1.dr d) K:=by
   intro K h
   rw [← nS.1,← nT.1] at h
   exact h
  refine eM _ ?_
  refine g_Solve exp_lt exp_lt nS.2 nT.2 hdet ?_
  refine T3_mk.2 (zA.2 (zA.2 (zA.2 ⟨C0,?_⟩)))
  have hgx:=get_secB (fun a=>if a.val<k' then secX i j S T a else sec [] a) hc
  have hgy:=get_secB (fun a=>if a.val<k' then secY i j S T a else sec [] a) hc
  refine (x1.keep kd (by simp)).stF (i:=(k':Int)) (n:=1) (t:=0) (y:=secX i j S T ⟨k',hc⟩) rfl (by omega) (by rw [Int.toNat_natCast];exact hgx) (by omega) rfl rfl fun w2 x2 k2 z2=>?_
  have k2':Keep (fun a=>a=bx) (w1.dr d) w2:=k2.mono fun a ha=>by
   injection ha with ha
   injection ha with ha
   exact ha.symm
  have C2:OwnL nLay w2 base 3 pg 2 cg [(i:Int),(j:Int)]∧OwnL byLay w2 base 5 (some ⟨bs,0,none⟩) 16 16 (secB S)∧OwnL byLay w2 base 5 (some ⟨bt,0,none⟩) 16 16 (secB T) :=
   ⟨C0.1.keep k2' (fun a ha e=>gx (e ▸ ha)),C0.2.1.keep k2' (fun a ha e=>by injection ha with ha;injection ha with ha;omega),C0.2.2.keep k2' (fun a ha e=>by injection ha with ha;injection ha with ha;omega)⟩
  refine ⟨C2,?_⟩
  have y2:=(y1.keep kd (by simp)).keep k2' (fun a ha e=>by injection ha with ha;injection ha with ha;omega)
  refine y2.stF (i:=(k':Int)) (n:=1) (t:=0) (y:=secY i j S T ⟨k',hc⟩) rfl (by omega) (by rw [Int.toNat_natCast];exact hgy) (by omega) rfl rfl fun w3 y3 k3 z3=>?_
  have k3':Keep (fun a=>a=by_) w2 w3:=k3.mono fun a ha=>by
   injection ha with ha
   injection ha with ha
   exact ha.symm
  have C3:OwnL nLay w3 base 3 pg 2 cg [(i:Int),(j:Int)]∧OwnL byLay w3 base 5 (some ⟨bs,0,none⟩) 16 16 (secB S)∧OwnL byLay w3 base 5 (some ⟨bt,0,none⟩) 16 16 (secB T) :=
   ⟨C2.1.keep k3' (fun a ha e=>gy (e ▸ ha)),C2.2.1.keep k3' (fun a ha e=>by injection ha with ha;injection ha with ha;omega),C2.2.2.keep k3' (fun a ha e=>by injection ha with ha;injection ha with ha;omega)⟩
  refine ⟨C3,?_⟩
  have x3:=x2.keep k3' (fun a ha e=>by injection ha with ha;injection ha with ha;omega)
  rw [Int.toNat_natCast,set_secB] at x3 y3
  have st:∀ F:Sec,(fun a:Fin 16=>if a.val=k' then F ⟨k',hc⟩ else if a.val<k' then F a else sec [] a)=fun a=>if a.val<k'+1 then F a else sec [] a:=by
   intro F
   funext a
   by_cases h1:a.val=k'
   ·rw [if_pos h1,if_pos (by omega)]
    have:a=⟨k',hc⟩:=Fin.ext h1
    rw [this]
   ·rw [if_neg h1]
    by_cases h2:a.val<k'
    ·rw [if_pos h2,if_pos (by omega)]
    ·rw [if_neg h2,if_neg (by omega)]
  rw [st] at x3 y3
  have e3:IntKind.wrap .i64 ((k':Int)+1)=((k'+1:Nat):Int):=by rw [wrapI (by omega) (by omega)];omega
  exact ⟨_,by show (16-IntKind.wrap .i64 ((k':Int)+1)).toNat<(16-(k':Int)).toNat;rw [e3];omega,⟨k'+1,e3,by omega,x3,y3,((k1.dr d).trans (k2'.mono fun a h=>Or.inl h)).trans (k3'.mono fun a h=>Or.inr h)⟩,rfl⟩
 ·have hc:k'=16:=by
   have:¬ (k':Int)<16:=by simpa using hc
   omega
  subst hc
  have ex:∀ F:Sec,(fun a:Fin 16=>if a.val<16 then F a else sec [] a)=F:=fun F=>by funext a;rw [if_pos a.isLt]
  rw [ex] at x1 y1
  intro d
  have kd:=Keep.drew (fun _=>False) w1 d
  refine ⟨fun _=>True,trivial,?_⟩
  refine (og1.keep kd (by simp)).ld0 (i:=0) (n:=1) (x:=(i:Int)) (v:=.int .i64 (i:Int)) rfl (by omega) rfl rfl (zA.2 ?_)
  refine (og1.keep kd (by simp)).ld0 (i:=1) (n:=1) (x:=(j:Int)) (v:=.int .i64 (j:Int)) rfl (by omega) rfl rfl (zA.2 ?_)
  have ax:¬ pa=some ⟨bx,0,none⟩:=OwnL.ne ox oa (by decide) rfl
  have ay:¬ pa=some ⟨by_,0,none⟩:=OwnL.ne oy oa (by decide) rfl
  have oa1:=(oa.keep k1 fun a ha hb=>by
   rcases hb with e | e
   ·exact ax (e ▸ ha)
   ·exact ay (e ▸ ha)).keep kd (by simp)
  have hla:=oa.length
  obtain ⟨h0,hh0⟩:∃ h0,Hs[i]? = some h0:=⟨_,List.getElem?_eq_getElem (by omega)⟩
  refine oa1.stF (i:=(i:Int)) (n:=1) (t:=0) (x:=h0) (y:=(some ⟨bx,0,none⟩,16,16)) rfl (by omega) (by rw [Int.toNat_natCast];exact hh0) (by omega) rfl rfl fun w2 a2 k2 z2=>?_
  rw [Int.toNat_natCast] at a2
  refine ⟨trivial,?_⟩
  obtain ⟨h1,hh1⟩:∃ h1,(Hs.set i (some ⟨bx,0,none⟩,16,16))[j]? = some h1:=⟨_,List.getElem?_eq_getElem (by rw [List.length_set];omega)⟩
  refine a2.stF (i:=(j:Int)) (n:=1) (t:=0) (x:=h1) (y:=(some ⟨by_,0,none⟩,16,16)) rfl (by omega) (by rw [Int.toNat_natCast];exact hh1) (by omega) rfl rfl fun w3 a3 k3 z3=>?_
  rw [Int.toNat_natCast] at a3
  refine ⟨trivial,?_⟩
  have k13:=(kd.mono (S':=fun k=>pa=some ⟨k,0,none⟩) fun _ h=>h.elim).trans (k2.trans k3)
  refine hK w3 a3 (x1.keep k13 fun a ha hb=>?_) (y1.keep k13 fun a ha hb=>?_) ((k1.mono fun a ha=>?_).trans (k13.mono fun a ha=>Or.inr (Or.inr ha)))
  ·cases ha;exact ax hb
  ·cases ha;exact ay hb
  ·rcases ha with e | e
   ·exact Or.inl e
   ·exact Or.inr (Or.inl e)
end calls
def ColOwn (w:World) (base:Nat) (h:Option Addr×Nat×Nat):Option Sec→Prop
 | none=>h=(none,0,0)
 | some f=>h.2.1=16∧OwnL byLay w base 5 h.1 16 h.2.2 (secB f)
theorem len_two {α:Type}:∀ {l:List α},l.length=2→∃ x y,l=[x,y]
 | [x,y],_=>⟨x,y,rfl⟩
theorem ColOwn.at_ {w:World} {base:Nat} {h:Option Addr×Nat×Nat}:∀ {C:Option Sec},ColOwn w base h C→ColAt w h C
 | none,hc=>hc
 | some f,⟨h1,h2⟩=>by
  obtain ⟨b,cur,e,_⟩:=h2.cells (by omega)
  exact ⟨⟨b,0,e⟩,h1,h2.cap.1,h2.sl⟩
theorem ColOwn.keep {w w':World} {base:Nat} {h:Option Addr×Nat×Nat}:∀ {C:Option Sec},ColOwn w base h C→Keep (fun _=>False) w w'→ColOwn w' base h C
 | none,hc,_=>hc
 | some f,⟨h1,h2⟩,k=>⟨h1,h2.keep k (by simp)⟩
theorem ColOwn.keepH {w w':World} {base:Nat} {h:Option Addr×Nat×Nat} {S:Nat→Prop}:∀ {C:Option Sec},ColOwn w base h C→Keep S w w'→(∀ f k,C=some f→h.1=some ⟨k,0,none⟩→¬ S k)→ColOwn w' base h C
 | none,hc,_,_=>hc
 | some f,⟨h1,h2⟩,k,hS=>⟨h1,h2.keep k fun a ha=>hS f a rfl ha⟩
theorem ColOwn.hdr {w w':World} {base b2:Nat} {h:Option Addr×Nat×Nat} {C:Option Sec} {p:Option Addr} {l c:Nat} {e:TypeId} {α:Type} {L:Lay α} {Hs:List α} (hc:ColOwn w base h C) (ho:OwnL L w b2 e p l c Hs) (he:e≠5) (k:Keep (fun k=>p=some ⟨k,0,none⟩) w w'):ColOwn w' base h C:=by
 refine hc.keepH k fun f a hf ha=>?_
 subst hf
 exact OwnL.ne hc.2 ho (fun e'=>he e'.symm) ha
structure All (w:World) (base:Nat) (p:Option Addr) (l c:Nat) (Z:List (Option Sec)):Prop where
 ex:∃ Hs,OwnL hLay w base 22 p l c Hs∧Hs.length=Z.length∧(∀ (k:Nat) h C,Hs[k]? = some h→Z[k]? = some C→ColOwn w base h C)∧∀ C∈Z,ColOk C
theorem All.keep {w w':World} {base:Nat} {p:Option Addr} {l c:Nat} {Z:List (Option Sec)} (h:All w base p l c Z) (k:Keep (fun _=>False) w w'):All w' base p l c Z:=by
 obtain ⟨Hs,h1,h2,h3,h4⟩:=h.ex
 exact ⟨Hs,h1.keep k (by simp),h2,fun i a C x y=>(h3 i a C x y).keep k,h4⟩
theorem All.cols {w:World} {base:Nat} {p:Option Addr} {l c:Nat} {Z:List (Option Sec)} (h:All w base p l c Z):∃ Hs,Cols w p l Hs Z:=by
 obtain ⟨Hs,h1,h2,h3,h4⟩:=h.ex
 exact ⟨Hs,h1.sl,h2,fun i a C x y=>(h3 i a C x y).at_,h4⟩
theorem ColAt.of {w:World} {base b c:Nat} {e:TypeId} {F:Sec} (h:OwnL byLay w base e (some ⟨b,0,none⟩) 16 c (secB F)):ColAt w (some ⟨b,0,none⟩,16,c) (some F) :=
 ⟨⟨b,0,rfl⟩,rfl,h.cap.1,h.sl⟩
theorem ColOwn.set {w:World} {base:Nat} {Hs:List (Option Addr×Nat×Nat)} {Z:List (Option Sec)} (hl:Hs.length=Z.length) (hat:∀ (i:Nat) h C,Hs[i]? = some h→Z[i]? = some C→ColOwn w base h C) (i:Nat) {h:Option Addr×Nat×Nat} {C:Option Sec} (hc:ColOwn w base h C) :
  ∀ (k:Nat) h' C',(Hs.set i h)[k]? = some h'→(Z.set i C)[k]? = some C'→ColOwn w base h' C':=by
 intro k h' C' h1 h2
 by_cases hk:i=k
 ·subst hk
  have hlt:i<(Hs.set i h).length:=(List.getElem?_eq_some_iff.1 h1).1
  rw [List.length_set] at hlt
  rw [List.getElem?_set_self hlt] at h1
  rw [List.getElem?_set_self (by omega)] at h2
  cases h1
  cases h2
  exact hc
 ·rw [List.getElem?_set_ne hk] at h1 h2
  exact hat k h' C' h1 h2
def recP (Cs:List (Option Sec)) (Pc Qc:Option Sec):Sec:=Pc.getD (sumP (fixC Cs Pc Qc))
def recQ (Cs:List (Option Sec)) (Pc Qc:Option Sec):Sec:=Qc.getD (sumQ (fixC Cs Pc Qc))
def RcEnd (pa:Option Addr) (la ca:Nat) (pp:Option Addr) (pl pc:Nat) (qp:Option Addr) (ql qc:Nat) (w:World) (R:Value→World→Prop):Prop :=
 zB Tryz.prog 181 #[.slice pp pl pc] w
 fun v88 w=>OpS v88 fun p19 l19 c19=>zB Tryz.prog 181 #[.slice qp ql qc] w fun v89 w=>OpS v89 fun p20 l20 c20=>zB Tryz.prog 182 #[.slice pa la ca,
 .int .i64 16] w fun v90 w=>T2 v90 fun v91 v92=>OpS v91 fun p21 l21 c21=>OpS v92 fun p22 l22 c22=>JoinC (σ:=(Option Addr×Nat×Nat)×Unit) (fun J8=>Cb (((pl :
 Nat):Int)==0) (J8 ((p21,l21,c21),()) w) (J8 ((p19,l19,c19),()) w)) (fun _ s8 w=>JoinC (σ:=(Option Addr×Nat×Nat)×Unit) (fun J9=>Cb (((ql:Nat):Int)
 == 0) (J9 ((p22,l22,c22),()) w) (J9 ((p20,l20,c20),()) w)) (fun _ s9 w=>Ret [] (R (.tuple #[.slice pa la ca,.slice s8.1.1 s8.1.2.1 s8.1.2.2,
 .slice s9.1.1 s9.1.2.1 s9.1.2.2,.int .i64 0]) w)))
section calls
variable {w:World} {R:Value→World→Prop}
theorem rcEnd {base:Nat} {pa:Option Addr} {la ca:Nat} {hp hq:Option Addr×Nat×Nat} {Pc Qc:Option Sec} {Z:List (Option Sec)} (ha:All w base pa la ca Z) (hla:la≤200) (cp:ColAt w hp Pc) (cq:ColAt w hq Qc)
  (hK:∀ h1 h2 w',All w' base pa la ca Z→ColOwn w' 0 h1 (some (Pc.getD (sumP Z)))→ColOwn w' 0 h2 (some (Qc.getD (sumQ Z)))→Keep (fun _=>False) w w'→R (.tuple #[.slice pa la ca,.slice h1.1 h1.2.1 h1.2.2,.slice h2.1 h2.2.1 h2.2.2,.int .i64 0]) w') :
  RcEnd pa la ca hp.1 hp.2.1 hp.2.2 hq.1 hq.2.1 hq.2.2 w R:=by
 unfold RcEnd
 refine p_Clone cp fun h1 w1 c1 ow1 k1=>zC.2 ?_
 refine p_Clone (cq.keep k1) fun h2 w2 c2 ow2 k2=>zC.2 ?_
 have k02:=k1.trans k2
 obtain ⟨Hs,hc⟩:=(ha.keep k02).cols
 refine p_sums hc hla fun bp bq w3 hne hbp hbq o1 o2 k3=>?_
 refine T2_mk.2 (zC.2 (zC.2 ?_))
 have k03:=k02.trans k3
 refine ⟨fun st w'=>w'=w3∧ColOwn w3 0 st.1 (some (Pc.getD (sumP Z))),?_,?_⟩
 ·cases Pc with
  | none =>
   have cp:hp=(none,0,0):=cp
   rw [cp]
   exact (Cb_true (q:=_)).2 ⟨rfl,rfl,o1.rebase (Nat.zero_le _)⟩
  | some f =>
   have:hp.2.1=16:=cp.2.1
   rw [this]
   exact (Cb_false (p:=_)).2 ⟨rfl,c1.2.1,(((ow1 f rfl).rebase (Nat.zero_le _)).keep k2 (by simp)).keep k3 (by simp)⟩
 rintro _ ⟨g1,u⟩ w4 ⟨hw,cg1⟩
 rw [hw]
 clear hw
 refine ⟨fun st w'=>w'=w3∧ColOwn w3 0 st.1 (some (Qc.getD (sumQ Z))),?_,?_⟩
 ·cases Qc with
  | none =>
   have cq:hq=(none,0,0):=cq
   rw [cq]
   exact (Cb_true (q:=_)).2 ⟨rfl,rfl,o2.rebase (Nat.zero_le _)⟩
  | some f =>
   have:hq.2.1=16:=cq.2.1
   rw [this]
   exact (Cb_false (p:=_)).2 ⟨rfl,c2.2.1,((ow2 f rfl).rebase (Nat.zero_le _)).keep k3 (by simp)⟩
 rintro _ ⟨g2,u⟩ w5 ⟨hw,cg2⟩
 rw [hw]
 clear hw
 exact Ret_nil.2 (hK g1 g2 w3 (ha.keep k03) cg1 cg2 k03)
theorem p_Recover {colsp:Option Addr} {colsl colsc:Nat} {hs:List (Option Addr×Nat×Nat)} {Cs:List (Option Sec)} {hp hq:Option Addr×Nat×Nat} {Pc Qc:Option Sec} (hc:Cols w colsp colsl hs Cs) (h1:1≤colsl) (h2:colsl≤30) (cp:ColAt w hp Pc) (cq:ColAt w hq Qc) (okp:ColOk Pc) (okq:ColOk Qc)
  (hlost:lostN Cs+lostN [Pc,Qc]≤2)
  (hK:∀ pa ca g1 g2 w',All w' w.heap.size pa colsl ca (fixC Cs Pc Qc)→ColOwn w' 0 g1 (some (recP Cs Pc Qc))→ColOwn w' 0 g2 (some (recQ Cs Pc Qc))→Keep (fun _=>False) w w'→R (.tuple #[.slice pa colsl ca,.slice g1.1 g1.2.1 g1.2.2,.slice g2.1 g2.2.1 g2.2.2,.int .i64 0]) w') :
  zB Tryz.prog 110 #[.slice colsp colsl colsc,.slice hp.1 hp.2.1 hp.2.2,.slice hq.1 hq.2.1 hq.2.2] w R:=by
 apply C_parity_Recover
 unfold F_parity_Recover
 have hll:=hc.sl.1
 have hlc:=hc.len
 refine ⟨_,_,bsl_h2 _ _ _ _ _ _ w,zC.2 ?_⟩
 have k1:=Keep.new (fun _=>False) w (.cells #[.slice hp.1 hp.2.1 hp.2.2,.slice hq.1 hq.2.1 hq.2.2] 22)
 have hb1:=Has.new w (.cells #[.slice hp.1 hp.2.1 hp.2.2,.slice hq.1 hq.2.1 hq.2.2] 22)
 generalize hw1:w.alloc (.cells #[.slice hp.1 hp.2.1 hp.2.2,.slice hq.1 hq.2.1 hq.2.2] 22)=w1 at *
 have hc1:=hc.keepB k1 (by simp)
 have o1:OwnL hLay w1 w.heap.size 22 (some ⟨w.heap.size,0,none⟩) 2 2 [hp,hq]:=OwnL.mk (xs:=[hp,hq]) (Nat.le_refl _) hb1 (by simp [maxLen]) rfl
 have hm1:Cols w1 (some ⟨w.heap.size,0,none⟩) 2 [hp,hq] [Pc,Qc]:=by
  refine ⟨o1.sl,rfl,fun i h C hh hC=>?_,?_⟩
  ·match i,hh,hC with
   | 0,hh,hC=>cases hh;cases hC;exact cp.keep k1
   | 1,hh,hC=>cases hh;cases hC;exact cq.keep k1
   | i+2,hh,hC=>simp at hh
  ·intro C hC
   simp only [List.mem_cons,List.not_mem_nil,or_false] at hC
   rcases hC with rfl | rfl
   ·exact okp
   ·exact okq
 have hsome:∃ f,some f∈Cs++[Pc,Qc]:=by
  refine Classical.byContradiction fun hn=>?_
  have:lostN (Cs++[Pc,Qc])=(Cs++[Pc,Qc]).length:=by
   unfold lostN
   rw [List.filter_eq_self.2]
   intro C hC
   cases C with
   | none=>rfl
   | some f=>exact absurd ⟨f,hC⟩ hn
  rw [lostN_append,List.length_append] at this
  simp only [List.length_cons,List.length_nil] at this
  omega
 refine p_width hc1 hm1 h1 h2 (by omega) hsome fun w2 k2=>?_
 rw [lostN_append]
 refine T2_mk.2 (zA.2 (zA.2 ((Cb_false (p:=_)).2 ?_)))
 rw [decide_eq_false (by omega)]
 refine (Cb_false (p:=_)).2 ?_
 have k02:=k1.trans k2
 have hc2:=hc.keepB k02 (by simp)
 refine LoopC_of (σ:=(Option Addr×Nat×Nat)×(Option Addr×Nat×Nat)×Int×Unit) (fun st w'=>∃ (i:Nat) (Hs:List (Option Addr×Nat×Nat)),st.2.2.1=(i:Int)∧i≤colsl∧OwnL hLay w' w.heap.size 22 st.1.1 st.1.2.1 st.1.2.2 Hs∧Hs.length=i∧(∀ (k:Nat) h C,Hs[k]? = some h→Cs[k]? = some C→ColOwn w' w.heap.size h C)∧OwnL nLay w' w.heap.size 3 st.2.1.1 st.2.1.2.1 st.2.1.2.2 (goneI Cs i)∧Keep (fun _=>False) w w') (fun st _=>(colsl-st.2.2.1).toNat)
  ⟨0,[],rfl,by omega,OwnL.nil,rfl,by simp,OwnL.nil,k02⟩ ?_
 rintro _ ⟨⟨pa,la,ca⟩,⟨pg,lg,cg⟩,i,u⟩ w3 ⟨i',Hs,hi,hil,oa,hHl,hat,og,k3⟩
 simp only at hi oa og ⊢
 subst hi
 have hc3:=hc.keepB k3 (by simp)
 refine Cb_of (fun hcc=>?_) (fun hcc=>?_)
 ·have hcc:i'<colsl:=by
   have:(i':Int)<(colsl:Int):=by simpa using hcc
   omega
  obtain ⟨h,hh⟩:∃ h,hs[i']? = some h:=⟨_,List.getElem?_eq_getElem (by omega)⟩
  obtain ⟨C,hC⟩:∃ C,Cs[i']? = some C:=⟨_,List.getElem?_eq_getElem (by omega)⟩
  have hcat:=hc3.at_ i' h C hh hC
  refine hc3.sl.ld0 (i:=(i':Int)) (n:=1) (x:=h) (v:=.slice h.1 h.2.1 h.2.2) rfl (by omega) (by simpa using hh) rfl (zC.2 ?_)
  refine p_Clone hcat fun h' w4 c4 o4 k4=>zC.2 ?_
  refine ⟨_,_,bsl_h1 _ _ _ w4,zC.2 ?_⟩
  have k5:=Keep.new (fun _=>False) w4 (.cells #[.slice h'.1 h'.2.1 h'.2.2] 22)
  have hb5:=Has.new w4 (.cells #[.slice h'.1 h'.2.1 h'.2.2] 22)
  generalize w4.alloc (.cells #[.slice h'.1 h'.2.1 h'.2.2] 22)=w5 at *
  have k35:=k4.trans k5
  have hla:=oa.length
  have z3:=k3.size
  have z5:=k35.size
  obtain ⟨p6,c6,w6,hr6,o6,k6,hp6⟩:=run_appendF1 hLayT (oa.keep k35 (by simp)) (y:=h') hb5 rfl (ty:=187) (by omega) (by simp only [maxLen];omega) (by omega) (c2:=1)
  refine ⟨_,_,hr6,zC.2 ?_⟩
  have hat5:∀ (k:Nat) g D,Hs[k]? = some g→Cs[k]? = some D→ColOwn w6 w.heap.size g D:=fun k g D h1 h2=>((hat k g D h1 h2).keep k35).hdr (oa.keep k35 (by simp)) (by decide) k6
  have own5:ColOwn w6 w.heap.size h' C:=by
   have h5:ColOwn w5 w.heap.size h' C:=by
    cases C with
    | none=>exact c4
    | some f=>exact ⟨c4.2.1,((o4 f rfl).rebase z3).keep k5 (by simp)⟩
   exact h5.hdr (oa.keep k35 (by simp)) (by decide) k6
  have og6:OwnL nLay w6 w.heap.size 3 pg lg cg (goneI Cs i'):=(og.keep k35 (by simp)).keep k6 fun k hk he=>OwnL.ne (og.keep k35 (by simp)) (oa.keep k35 (by simp)) (by decide) hk he
  have k36:Keep (fun _=>False) w w6:=(k3.trans k35).trans' k6 fun k hk he=>by have:=(oa.lt he).1;omega
  have e3:IntKind.wrap .i64 ((i':Int)+1)=((i'+1:Nat):Int):=by rw [wrapI (by omega) (by omega)];omega
  have hat6:∀ (k:Nat) g D,(Hs++[h'])[k]? = some g→Cs[k]? = some D→ColOwn w6 w.heap.size g D:=by
   intro k g D h1 h2
   by_cases hk:k<Hs.length
   ·rw [List.getElem?_append_left hk] at h1
    exact hat5 k g D h1 h2
   ·rw [List.getElem?_append_right (by omega)] at h1
    have hk0:k-Hs.length=0:=by
     have:=(List.getElem?_eq_some_iff.1 h1).1
     simp at this
     omega
    rw [hk0] at h1
    cases h1
    have:k=i':=by omega
    subst this
    rw [hC] at h2
    cases h2
    exact own5
  refine ⟨fun st w'=>OwnL hLay w' w.heap.size 22 p6 (la+1) c6 (Hs++[h'])∧(∀ (k:Nat) g D,(Hs++[h'])[k]? = some g→Cs[k]? = some D→ColOwn w' w.heap.size g D)∧OwnL nLay w' w.heap.size 3 st.1.1 st.1.2.1 st.1.2.2 (goneI Cs (i'+1))∧Keep (fun _=>False) w w',?_,?_⟩
  ·have hgs:goneI Cs (i'+1)=goneI Cs i'++(if isGone Cs[i']? = true then [(i':Int)] else []):=rfl
   cases C with
   | none =>
    have:h=(none,0,0):=hcat
    subst this
    refine (Cb_true (q:=_)).2 ?_
    refine ⟨_,_,bsl_n1 _ w6,zC.2 ?_⟩
    have k7:=Keep.new (fun _=>False) w6 (.cells #[.int .i64 (i':Int)] 3)
    have hb7:=Has.new w6 (.cells #[.int .i64 (i':Int)] 3)
    generalize w6.alloc (.cells #[.int .i64 (i':Int)] 3)=w7 at *
    have hlg:=og.length
    have hlgl:(goneI Cs i').length≤i':=by rw [goneI_len Cs i' (by omega)];exact Nat.le_trans (lostN_le _) (by rw [List.length_take];omega)
    have z6:=k36.size
    have z7:=k7.size
    obtain ⟨p8,c8,w8,hr8,o8,k8,hp8⟩:=run_appendF1 nLayT (og6.keep k7 (by simp)) (y:=(i':Int)) hb7 rfl (ty:=69) (by omega) (by simp only [maxLen];omega) (by omega) (c2:=1)
    refine ⟨_,_,hr8,zC.2 ⟨?_,?_,?_,?_⟩⟩
    ·exact (o6.keep k7 (by simp)).keep k8 fun k hk he=>OwnL.ne (o6.keep k7 (by simp)) (og6.keep k7 (by simp)) (by decide) hk he
    ·exact fun k g D h1 h2=>((hat6 k g D h1 h2).keep k7).hdr (og6.keep k7 (by simp)) (by decide) k8
    ·rw [hgs,hC,if_pos (show isGone (some none)=true from rfl)];exact o8
    ·exact (k36.trans k7).trans' k8 fun k hk he=>by have:=(og6.lt he).1;omega
   | some f =>
    have:h.2.1=16:=hcat.2.1
    rw [this]
    refine (Cb_false (p:=_)).2 ⟨o6,hat6,?_,k36⟩
    rw [hgs,hC,if_neg (by simp [isGone]),List.append_nil];exact og6
  rintro _ ⟨⟨p9,l9,c9⟩,u⟩ w9 ⟨a9,b9,d9,k9⟩
  exact ⟨_,by show ((colsl:Int)-IntKind.wrap .i64 ((i':Int)+1)).toNat<((colsl:Int)-(i':Int)).toNat;rw [e3];omega,⟨i'+1,Hs++[h'],e3,by omega,a9,by simp [hHl],b9,d9,k9⟩,rfl⟩
 ·have hcc:i'=colsl:=by
   have:¬ (i':Int)<(colsl:Int):=by simpa using hcc
   omega
  have hla:la=colsl:=by have:=oa.length;omega
  subst hla
  have hi'C:i'=Cs.length:=by omega
  have hgl:goneI Cs i'=goneL Cs:=by rw [hi'C];rfl
  rw [hgl] at og
  have hglen:=goneL_len Cs
  have hglg:=og.length
  have hSok:=miss_ok hc.ok okp
  have hTok:=miss_ok hc.ok okq
  refine p_sums hc3 (by omega) fun bp bq w4 hne hbp hbq os ot k4=>?_
  refine T2_mk.2 (zC.2 (zC.2 ?_))
  have z3:=k3.size
  have k04:=k3.trans k4
  have blk:∀ {h:Option Addr×Nat×Nat} {C:Option Sec},ColAt w h C→∀ b o,h.1=some ⟨b,o,none⟩→b<w.heap.size:=by
   intro h C hcat b o hpp
   cases C with
   | none =>
    have:h=(none,0,0):=hcat
    rw [this] at hpp
    cases hpp
   | some f =>
    obtain ⟨_,_,_,hs4⟩:=hcat
    rw [hpp] at hs4
    exact SlL.blk_lt hs4 (by omega)
  refine p_add (g:=1) os (sumI_ok (fun _=>by omega) hc.ok _) (cp.keepB k04 (by simp)) okp (by omega) (fun b' o hpp=>by have:=blk cp b' o hpp;omega) fun w5 os5 k5=>?_
  have ot5:=ot.keep k5 fun k hk he=>by
   injection hk with hk
   injection hk with hk
   omega
  have k05:Keep (fun _=>False) w w5:=k04.trans' k5 fun k hk he=>by omega
  refine p_add (g:=1) ot5 (sumI_ok expN_lt hc.ok _) (cq.keepB k05 (by simp)) okq (by omega) (fun b' o hpp=>by have:=blk cq b' o hpp;omega) fun w6 ot6 k6=>?_
  have os6:=os5.keep k6 fun k hk he=>by
   injection hk with hk
   injection hk with hk
   omega
  have k06:Keep (fun _=>False) w w6:=k05.trans' k6 fun k hk he=>by omega
  have k36:Keep (fun _=>False) w3 w6:=(k4.trans' k5 fun k hk he=>by omega).trans' k6 fun k hk he=>by omega
  have os6:OwnL byLay w6 w.heap.size 5 (some ⟨bp,0,none⟩) 16 16 (secB (missP Cs Pc)):=os6.rebase z3
  have ot6:OwnL byLay w6 w.heap.size 5 (some ⟨bq,0,none⟩) 16 16 (secB (missQ Cs Qc)):=ot6.rebase z3
  have oa6:=oa.keep k36 (by simp)
  have og6:=og.keep k36 (by simp)
  have hat6:∀ (k:Nat) h C,Hs[k]? = some h→Cs[k]? = some C→ColOwn w6 w.heap.size h C:=fun k h C h1 h2=>(hat k h C h1 h2).keep k36
  have fin:∀ {w7:World},All w7 w.heap.size pa la ca (fixC Cs Pc Qc)→Keep (fun _=>False) w w7→RcEnd pa la ca hp.1 hp.2.1 hp.2.2 hq.1 hq.2.1 hq.2.2 w7 R:=by
   intro w7 hA k7
   refine rcEnd hA (by omega) (cp.keepB k7 (by simp)) (cq.keepB k7 (by simp)) fun g1 g2 w8 hA8 c1 c2 k8=>?_
   exact hK pa ca g1 g2 w8 hA8 c1 c2 (k7.trans k8)
  refine ⟨fun _ w7=>All w7 w.heap.size pa la ca (fixC Cs Pc Qc)∧Keep (fun _=>False) w w7,?_,?_⟩
  rotate_left
  ·rintro _ u w7 ⟨hA,k7⟩
   exact fin hA k7
  have hokF:=fixC_ok (Pc:=Pc) (Qc:=Qc) hc.ok okp okq
  have one:∀ {i:Nat} {F:Sec} {b7:Nat} {w7:World},goneL Cs=[(i:Int)]→fixC Cs Pc Qc=Cs.set i (some F)→OwnL byLay w7 w.heap.size 5 (some ⟨b7,0,none⟩) 16 16 (secB F)→Keep (fun _=>False) w w7→OwnL hLay w7 w.heap.size 22 pa la ca Hs→OwnL nLay w7 w.heap.size 3 pg lg cg (goneL Cs)→(∀ (k:Nat) h C,Hs[k]? = some h→Cs[k]? = some C→ColOwn w7 w.heap.size h C) →
    IdxS pg lg 0 1 fun b1 o1=>LdV b1 o1 (At w7) fun v15=>OpI .i64 v15 fun n2=>IdxS pa la n2 1 fun b2 o2=>StV b2 o2 (.slice (some ⟨b7,0,none⟩) 16 16) w7 fun w8=>All w8 w.heap.size pa la ca (fixC Cs Pc Qc)∧Keep (fun _=>False) w w8:=by
   intro i F b7 w7 hG hF oF k7 oa7 og7 hat7
   rw [hG] at og7
   refine og7.ld0 (i:=0) (n:=1) (x:=(i:Int)) (v:=.int .i64 (i:Int)) rfl (by omega) rfl rfl (zA.2 ?_)
   obtain ⟨n,hn1,hn2,hn3⟩:=goneI_lt Cs Cs.length (i:Int) (by show _∈goneL Cs;rw [hG];simp)
   have hni:n=i:=by omega
   subst hni
   obtain ⟨h0,hh0⟩:∃ h0,Hs[n]? = some h0:=⟨_,List.getElem?_eq_getElem (by omega)⟩
   refine oa7.stF (i:=(n:Int)) (n:=1) (t:=0) (x:=h0) (y:=(some ⟨b7,0,none⟩,16,16)) rfl (by omega) (by rw [Int.toNat_natCast];exact hh0) (by omega) rfl rfl fun w8 a8 k8 z8=>?_
   rw [Int.toNat_natCast] at a8
   have k08:Keep (fun _=>False) w w8:=k7.trans' k8 fun k hk he=>by have:=(oa7.lt he).1;omega
   have hF8:ColOwn w7 w.heap.size (some ⟨b7,0,none⟩,16,16) (some F):=⟨rfl,oF⟩
   refine ⟨⟨_,a8,by rw [hF,List.length_set,List.length_set];omega,?_,hokF⟩,k08⟩
   rw [hF]
   intro k h C h1 h2
   exact (ColOwn.set (by omega) hat7 n hF8 k h C h1 h2).hdr oa7 (by decide) k8
  have hpl:lostN [Pc,Qc]=(if Pc.isNone=true then 1 else 0)+(if Qc.isNone=true then 1 else 0):=by
   cases Pc <;> cases Qc <;> rfl
  have gidx:∀ x∈goneL Cs,∃ n:Nat,x=(n:Int)∧n<Cs.length∧Cs[n]? = some none:=fun x hx=>goneI_lt Cs Cs.length x hx
  have none_:goneL Cs=[]→All w6 w.heap.size pa la ca (fixC Cs Pc Qc)∧Keep (fun _=>False) w w6:=by
   intro hG
   have hF:fixC Cs Pc Qc=Cs:=by unfold fixC;rw [hG]
   rw [hF]
   exact ⟨⟨Hs,oa6,by omega,hat6,hc.ok⟩,k06⟩
  refine Cb_of (fun h1=>?_) (fun h1=>?_)
  ·have h1:lg=1:=by
    have:((lg:Nat):Int)=1:=by simpa using h1
    omega
   obtain ⟨i,hG,hi30⟩:∃ i:Nat,goneL Cs=[(i:Int)]∧i<30:=by
    obtain ⟨x,hx⟩:=List.length_eq_one_iff.1 (show (goneL Cs).length=1 by omega)
    obtain ⟨n,hn,hn2,_⟩:=gidx x (by rw [hx];simp)
    exact ⟨n,by rw [hx,hn],by omega⟩
   refine Cb_of (fun h2=>?_) (fun h2=>?_)
   ·have h2:hp.2.1>0:=by
     have:((hp.2.1:Nat):Int)>0:=by simpa using h2
     omega
    have hPs:Pc.isSome=true:=by
     cases Pc with
     | none =>
      have:hp=(none,0,0):=cp
      rw [this] at h2
      simp at h2
     | some f=>rfl
    have hF:fixC Cs Pc Qc=Cs.set i (some (missP Cs Pc)):=by
     unfold fixC
     rw [hG]
     simp only [hPs,if_true,Int.toNat_natCast]
    exact one hG hF os6 k06 oa6 og6 hat6
   ·have h2:¬ hp.2.1>0:=by
     have:¬ ((hp.2.1:Nat):Int)>0:=by simpa using h2
     omega
    have hPn:Pc.isSome=false:=by
     cases Pc with
     | none=>rfl
     | some f =>
      have:hp.2.1=16:=cp.2.1
      omega
    have hF:fixC Cs Pc Qc=Cs.set i (some (xadd (powN (expN i) 254) (sec []) (missQ Cs Qc))):=by
     unfold fixC
     rw [hG]
     simp only [hPn,Int.toNat_natCast]
     rfl
    rw [h1]
    refine (Cb_true (q:=_)).2 ?_
    have og6':=og6
    rw [hG,h1] at og6'
    refine og6'.ld0 (i:=0) (n:=1) (x:=(i:Int)) (v:=.int .i64 (i:Int)) rfl (by omega) rfl rfl (zA.2 ?_)
    refine g_Exp (by omega) (zA.2 ?_)
    refine g_Inv (exp_ne0 hi30) exp_lt ?_
    refine T2_mk.2 (zA.2 (zA.2 ?_))
    obtain ⟨w7,hr7,o7,k7,z7⟩:=run_mk16 w6
    refine ⟨_,_,hr7,zC.2 ?_⟩
    have ot7:=ot6.keep k7 (by simp)
    have hbq6:bq<w6.heap.size:=by
     have:=(ot6.lt rfl).2
     exact this
    refine p_add (g:=powN (expN i) 254) (h:=(some ⟨bq,0,none⟩,16,16)) (C:=some (missQ Cs Qc)) o7 sec0_ok (ColAt.of ot7) hTok.2 (powN_lt exp_lt) (fun b' o hpp=>by cases hpp;omega) fun w8 o8 k8=>?_
    have k68:Keep (fun _=>False) w6 w8:=k7.trans' k8 fun k hk he=>by omega
    have z06:=k06.size
    have:=one hG hF (o8.rebase z06) (k06.trans k68) (oa6.keep k68 (by simp)) (og6.keep k68 (by simp)) (fun k h C h1 h2=>(hat6 k h C h1 h2).keep k68)
    rw [h1] at this
    exact this
  ·have h1:lg≠1:=by
    intro e
    rw [e] at h1
    cases h1
   have h1b:(((lg:Nat):Int)==1)=false:=by
    rw [beq_eq_false_iff_ne];omega
   rw [h1b]
   refine (Cb_false (p:=_)).2 ?_
   refine Cb_of (fun h2=>?_) (fun h2=>?_)
   ·have h2:lg=2:=by
     have:((lg:Nat):Int)=2:=by simpa using h2
     omega
    obtain ⟨i,j,hG,hij,hi30,hj30⟩:∃ i j:Nat,goneL Cs=[(i:Int),(j:Int)]∧i≠j∧i<Cs.length∧j<Cs.length:=by
     obtain ⟨x,y,hx⟩:∃ x y,goneL Cs=[x,y]:=len_two (show (goneL Cs).length=2 by omega)
     obtain ⟨n,hn,hn2,_⟩:=gidx x (by rw [hx];simp)
     obtain ⟨m,hm,hm2,_⟩:=gidx y (by rw [hx];simp)
     have hs:=goneI_sorted Cs Cs.length
     have hs:(goneL Cs).Pairwise (·<·):=hs
     rw [hx] at hs
     have:x<y:=by simpa using hs
     exact ⟨n,m,by rw [hx,hn,hm],by omega,hn2,hm2⟩
    have hF:fixC Cs Pc Qc=(Cs.set i (some (secX i j (missP Cs Pc) (missQ Cs Qc)))).set j (some (secY i j (missP Cs Pc) (missQ Cs Qc))):=by
     unfold fixC
     rw [hG]
     simp only [Int.toNat_natCast]
    rw [hG,h2] at og6
    rw [h2]
    have z06:=k06.size
    have hbp6:bp<w6.heap.size:=(os6.lt rfl).2
    have hbq6:bq<w6.heap.size:=(ot6.lt rfl).2
    have two:∀ {bx by_:Nat} {w8:World},bx≠by_→w6.heap.size≤bx→w6.heap.size≤by_→Keep (fun _=>False) w6 w8→OwnL byLay w8 w.heap.size 5 (some ⟨bx,0,none⟩) 16 16 (secB (sec []))→OwnL byLay w8 w.heap.size 5 (some ⟨by_,0,none⟩) 16 16 (secB (sec [])) →
      TwoT pg 2 (some ⟨bp,0,none⟩) 16 (some ⟨bq,0,none⟩) 16 (some ⟨bx,0,none⟩) 16 16 (some ⟨by_,0,none⟩) 16 16 pa la w8 fun _ w7=>All w7 w.heap.size pa la ca (fixC Cs Pc Qc)∧Keep (fun _=>False) w w7:=by
     intro bx by_ w8 hxy hx hy k8 ox oy
     refine twoT hSok.1 hTok.2 (by omega) (by omega) hij (by omega) (by omega) (og6.keep k8 (by simp)) (os6.keep k8 (by simp)) (ot6.keep k8 (by simp)) ox oy (oa6.keep k8 (by simp)) hxy (by omega) (by omega) (by omega) (by omega) fun w9 a9 x9 y9 k9=>?_
     have k09:Keep (fun _=>False) w w9:=(k06.trans k8).trans' k9 fun k hk he=>by
      rcases he with e | e | e
      ·omega
      ·omega
      ·have:=(oa6.lt e).1;omega
     have hat9:∀ (k:Nat) h C,Hs[k]? = some h→Cs[k]? = some C→ColOwn w9 w.heap.size h C:=fun k h C h1 h2=>((hat6 k h C h1 h2).keep k8).keepH k9 fun f a hf ha he=>by
      subst hf
      have hlt:=((hat6 k h (some f) h1 h2).2.lt ha).2
      rcases he with e | e | e
      ·omega
      ·omega
      ·exact OwnL.ne (hat6 k h (some f) h1 h2).2 oa6 (by decide) ha e
     refine ⟨⟨_,a9,by rw [hF];simp only [List.length_set];omega,?_,hokF⟩,k09⟩
     rw [hF]
     refine ColOwn.set (by simp only [List.length_set];omega) (ColOwn.set (by omega) hat9 i (C:=some (secX i j (missP Cs Pc) (missQ Cs Qc))) ⟨rfl,x9⟩) j (C:=some (secY i j (missP Cs Pc) (missQ Cs Qc))) ⟨rfl,y9⟩
    intro d
    have kd:=Keep.drew (fun _=>False) w6 d
    refine ⟨fun _=>True,trivial,?_,?_⟩
    ·obtain ⟨w7,hr7,o7,k7,z7⟩:=run_mk16 (w6.dr d)
     refine ⟨_,_,hr7,zC.2 ⟨trivial,?_⟩⟩
     obtain ⟨w8,hr8,o8,k8,z8⟩:=run_mk16 w7
     refine ⟨_,_,hr8,zC.2 ⟨trivial,?_⟩⟩
     have z7:w7.heap.size=w6.heap.size+1:=z7
     have e6:(w6.dr d).heap.size=w6.heap.size:=rfl
     rw [e6] at o7
     exact two (by rw [e6];omega) (by rw [e6];omega) (by omega) ((kd.trans k7).trans k8) ((o7.rebase z06).keep k8 (by simp)) (o8.rebase (by omega))
    ·obtain ⟨w7,hr7,o7,k7,z7⟩:=run_mk16 (w6.dr d)
     refine ⟨_,_,hr7,zC.2 ⟨trivial,?_⟩⟩
     obtain ⟨w8,hr8,o8,k8,z8⟩:=run_mk16 w7
     refine ⟨_,_,hr8,zC.2 ⟨trivial,?_⟩⟩
     have z7:w7.heap.size=w6.heap.size+1:=z7
     have e6:(w6.dr d).heap.size=w6.heap.size:=rfl
     rw [e6] at o7
     exact two (by rw [e6];omega) (by omega) (by rw [e6];omega) ((kd.trans k7).trans k8) (o8.rebase (by omega)) ((o7.rebase z06).keep k8 (by simp))
   ·have h2:lg=0:=by
     have:¬ ((lg:Nat):Int)=2:=by simpa using h2
     omega
    refine none_ ?_
    exact List.eq_nil_of_length_eq_zero (by omega)
end calls
def colsS (g:Geo) (s:SS) (st off:Int):List (Option Sec):=(List.range g.d.toNat).map fun (k:Nat)=>cellD (s.ds.getD (plcP g st off (k:Int)).dk.toNat dsk0) (plcP g st off (k:Int)).at_
theorem len_colsS (g:Geo) (s:SS) (st off:Int):(colsS g s st off).length=g.d.toNat:=by simp [colsS]
theorem colsS_at {g:Geo} {s:SS} {st off:Int} {k:Nat} (hk:k<g.d.toNat):(colsS g s st off)[k]? = some (cellD (s.ds.getD (plcP g st off (k:Int)).dk.toNat dsk0) (plcP g st off (k:Int)).at_):=by
 unfold colsS
 rw [List.getElem?_map,List.getElem?_range hk];rfl
theorem cellD_ok {D:Dsk} (h:DskOk D) (a:Int):ColOk (cellD D a):=by
 unfold cellD
 split
 ·trivial
 ·split
  ·trivial
  ·split
   ·exact (h.get _).1
   ·trivial
theorem dsk0_ok:DskOk dsk0:=⟨by simp [dsk0],by decide,by decide⟩
theorem getD_ok {s:SS} (h:∀ D∈s.ds,DskOk D) (i:Nat):DskOk (s.ds.getD i dsk0):=by
 rw [List.getD_eq_getElem?_getD]
 cases hx:s.ds[i]? with
 | none=>exact dsk0_ok
 | some x=>exact h x (List.mem_of_getElem? hx)
theorem colsS_ok {g:Geo} {s:SS} {st off:Int} (h:∀ D∈s.ds,DskOk D):∀ C∈colsS g s st off,ColOk C:=by
 intro C hC
 unfold colsS at hC
 obtain ⟨k,_,rfl⟩:=List.mem_map.1 hC
 exact cellD_ok (getD_ok h _) _
def rowD (Cs:List (Option Sec)):List (Option Sec):=Cs.take (Cs.length-2)
def rowPc (Cs:List (Option Sec)):Option Sec:=Cs.getD (Cs.length-2) none
def rowQc (Cs:List (Option Sec)):Option Sec:=Cs.getD (Cs.length-1) none
def rowR (Cs:List (Option Sec)):List Sec:=(fixC (rowD Cs) (rowPc Cs) (rowQc Cs)).map (fun C=>C.getD (sec []))++[recP (rowD Cs) (rowPc Cs) (rowQc Cs),recQ (rowD Cs) (rowPc Cs) (rowQc Cs)]
theorem split_row {Cs:List (Option Sec)} (h:2≤Cs.length):Cs=rowD Cs++[rowPc Cs,rowQc Cs]:=by
 apply List.ext_getElem?
 intro i
 unfold rowD rowPc rowQc
 by_cases h1:i<Cs.length-2
 ·rw [List.getElem?_append_left (by simp;omega),List.getElem?_take,if_pos h1]
 ·rw [List.getElem?_append_right (by simp;omega),List.length_take,Nat.min_eq_left (by omega)]
  by_cases h2:i=Cs.length-2
  ·rw [h2,Nat.sub_self,List.getD_eq_getElem?_getD,List.getElem?_eq_getElem (by omega)];rfl
  ·by_cases h3:i=Cs.length-1
   ·rw [show i-(Cs.length-2)=1 by omega,h3,List.getD_eq_getElem?_getD (i:=Cs.length-1),List.getElem?_eq_getElem (by omega)];rfl
   ·rw [List.getElem?_eq_none (by omega),List.getElem?_eq_none (by simp;omega)]
theorem lost_split {Cs:List (Option Sec)} (h:2≤Cs.length):lostN (rowD Cs)+lostN [rowPc Cs,rowQc Cs]=lostN Cs:=by
 conv=>rhs;rw [split_row h]
 rw [lostN_append]
theorem len_rowR {Cs:List (Option Sec)} (h:2≤Cs.length):(rowR Cs).length=Cs.length:=by
 unfold rowR
 rw [List.length_append,List.length_map,len_fixC]
 unfold rowD
 simp;omega
theorem goneI_has {Cs:List (Option Sec)}:∀ {k n:Nat},n<k→Cs[n]? = some none→(n:Int)∈goneI Cs k
 | 0,n,h,_=>absurd h (by omega)
 | k+1,n,h,hn=>by
  unfold goneI
  by_cases hk:n=k
  ·subst hk
   rw [if_pos (isGone_iff.2 hn)]
   simp
  ·exact List.mem_append_left _ (goneI_has (by omega) hn)
theorem gone_mem {Cs:List (Option Sec)} {n:Nat} (h:Cs[n]? = some none):(n:Int)∈goneL Cs:=goneI_has (List.getElem?_eq_some_iff.1 h).1 h
theorem fix_some {Cs:List (Option Sec)} {Pc Qc:Option Sec} (h:lostN Cs≤2):∀ C∈fixC Cs Pc Qc,∃ f,C=some f:=by
 intro C hC
 have hl:=goneL_len Cs
 cases C with
 | some f=>exact ⟨f,rfl⟩
 | none =>
  exfalso
  obtain ⟨n,hn⟩:=List.getElem?_of_mem hC
  have key:∀ {Z:List (Option Sec)},Z[n]? = some none→Z.length=Cs.length→(∀ m:Nat,(m:Int)∈goneL Cs→∃ f,Z[m]? = some (some f))→(∀ m:Nat,(m:Int) ∉ goneL Cs→Z[m]? = Cs[m]?)→False:=by
   intro Z h1 h2 h3 h4
   by_cases hm:(n:Int)∈goneL Cs
   ·obtain ⟨f,hf⟩:=h3 n hm
    rw [h1] at hf;cases hf
   ·rw [h4 n hm] at h1
    exact hm (gone_mem h1)
  have lt:∀ x∈goneL Cs,∃ m:Nat,x=(m:Int)∧m<Cs.length:=fun x hx=>by
   obtain ⟨m,h1,h2,_⟩:=goneI_lt Cs Cs.length x hx
   exact ⟨m,h1,h2⟩
  unfold fixC at hn
  split at hn
  ·rename_i i hG
   obtain ⟨m,hm,hml⟩:=lt i (by rw [hG];simp)
   have one:∀ F:Sec,(Cs.set i.toNat (some F))[n]? = some none→False:=fun F hF=>key hF (by simp) (fun k hk=>by
    rw [hG] at hk
    have:(k:Int)=i:=by simpa using hk
    rw [show i.toNat=k by omega,List.getElem?_set_self (by omega)]
    exact ⟨_,rfl⟩) (fun k hk=>by
    rw [hG] at hk
    have:¬ (k:Int)=i:=by simpa using hk
    rw [List.getElem?_set_ne (by omega)])
   split at hn
   ·exact one _ hn
   ·exact one _ hn
  ·rename_i i j hG
   obtain ⟨m,hm,hml⟩:=lt i (by rw [hG];simp)
   obtain ⟨m2,hm2,hml2⟩:=lt j (by rw [hG];simp)
   refine key hn (by simp) (fun k hk=>?_) (fun k hk=>?_)
   ·rw [hG] at hk
    by_cases hkj:(k:Int)=j
    ·rw [show j.toNat=k by omega,List.getElem?_set_self (by simp;omega)]
     exact ⟨_,rfl⟩
    ·have:(k:Int)=i:=by simpa [hkj] using hk
     rw [List.getElem?_set_ne (by omega),show i.toNat=k by omega,List.getElem?_set_self (by omega)]
     exact ⟨_,rfl⟩
   ·rw [hG] at hk
    have:¬ (k:Int)=i∧¬ (k:Int)=j:=by simpa using hk
    rw [List.getElem?_set_ne (by omega),List.getElem?_set_ne (by omega)]
  ·rename_i h1 h2
   have:goneL Cs=[]:=by
    match hG:goneL Cs with
    | []=>rfl
    | [i]=>exact absurd hG (h1 i)
    | [i,j]=>exact absurd hG (h2 i j)
    | _::_::_::_=>rw [hG] at hl;simp at hl;omega
   have hm:=gone_mem hn
   rw [this] at hm
   cases hm
def secLay:Lay Sec:=⟨16,fun f=>(secV f).toList,fun _=>rfl,one_secV,by decide⟩
theorem secLayT:LayT Tryz.prog secLay 32 37 16:=⟨by kernel_rfl,⟨(Tryz.prog.info? 37).get (by kernel_rfl),((Tryz.prog.info? 37).get (by kernel_rfl)).zero.get (by kernel_rfl),by kernel_rfl,by kernel_rfl,by kernel_rfl,by kernel_rfl,by kernel_rfl⟩⟩
theorem bsl_s1 (f:Sec) (w:World):(Instr.buildSlice 32 1 #[(0,.agg (secV f))]).run Tryz.prog w=.ok (.slice (some ⟨w.heap.size,0,none⟩) 1 1) (w.alloc (.cells (secV f) 37)) :=
 run_buildSlice w 32 37 1 _ (secV f) ((Tryz.prog.info? 37).get (by kernel_rfl)) (((Tryz.prog.info? 37).get (by kernel_rfl)).zero.get (by kernel_rfl)) (by kernel_rfl) (by kernel_rfl) (by kernel_rfl) (by decide +kernel) (by decide +kernel) (by kernel_rfl)
def SecAt (w:World) (h:Option Addr×Nat×Nat):Option Sec→Prop
 | none=>h=(none,0,0)
 | some f=>∃ b,h=(some ⟨b,0,none⟩,16,16)∧Has w b (.cells (secV f) 37 (0,0))
theorem SecAt.keep {w w':World} {S:Nat→Prop} {h:Option Addr×Nat×Nat}:∀ {C:Option Sec},SecAt w h C→Keep S w w'→(∀ b cs,Has w b (.cells cs 37 (0,0))→¬ S b)→SecAt w' h C
 | none,hc,_,_=>hc
 | some f,⟨b,h1,h2⟩,k,hS=>⟨b,h1,k.has h2 (hS b _ h2)⟩
theorem sl_secV {w:World} {b:Nat} {t:TypeId} {f:Sec} (h:Has w b (.cells (secV f) t (0,0))):SlL byLay w (some ⟨b,0,none⟩) 16 (secB f):=⟨rfl,fun i x hi=>⟨b,0,rfl,fun j hj=>by
 have hj:j=0:=by have:j<1:=hj;omega
 subst hj
 have e:(secV f).toList=(secB f).map fun y=>Value.int .u8 y:=rfl
 rw [cell_of h,show 0+i*byLay.size+0=i by show 0+i*1+0=i;omega,← Array.getElem?_toList,e,List.getElem?_map,hi];rfl⟩⟩
theorem SecAt.col {w:World} {h:Option Addr×Nat×Nat}:∀ {C:Option Sec},SecAt w h C→ColAt w h C
 | none,hc=>hc
 | some f,⟨b,h1,h2⟩=>by subst h1;exact ⟨⟨b,0,rfl⟩,rfl,Nat.le_refl _,sl_secV h2⟩
theorem OwnL.neH {α:Type} {L:Lay α} {w:World} {base:Nat} {e:TypeId} {p:Option Addr} {l c:Nat} {xs:List α} (h:OwnL L w base e p l c xs) {x:Nat} {cs:Array Value} {t:TypeId} (hx:Has w x (.cells cs t (0,0))) (ht:t≠e):p≠some ⟨x,0,none⟩:=by
 intro hp
 rcases Own.cases h with ⟨h0,_⟩ | ⟨b',cur,h0,_,hg,_⟩
 ·rw [h0] at hp;cases hp
 ·rw [h0] at hp
  cases hp
  exact (hx.ne hg (by simp only [ne_eq,Obj.cells.injEq];intro e';exact ht e'.2.1)) rfl
theorem ldSec {w:World} {p:Option Addr} {f:Sec} (h:SlL byLay w p 16 (secB f)) (hp:∃ b o,p=some ⟨b,o,none⟩) {K:Array Value→Prop} (hK:K (secV f)):SlArr p 16 16 fun b o=>LdA 16 b o (At w) K:=by
 obtain ⟨b,o,rfl⟩:=hp
 refine ⟨b,o,rfl,Nat.le_refl _,secV f,rfl,?_,hK⟩
 rintro w' ⟨d,rfl⟩ i hi
 obtain ⟨b',o',hp',hc⟩:=h.2 i (f ⟨i,hi⟩) (get_secB f hi)
 cases hp'
 have:=hc 0 (by show 0<1;decide)
 rw [show o+i*byLay.size+0=o+i by show o+i*1+0=o+i;omega] at this
 have e:(secV f).toList=(secB f).map fun y=>Value.int .u8 y:=rfl
 rw [show (w.dr d).cell? ⟨b,o+i,none⟩=w.cell? ⟨b,o+i,none⟩ from rfl,this,← Array.getElem?_toList,e,List.getElem?_map,get_secB f hi];rfl
theorem zc_plc:zc Tryz.prog 84=plcV ⟨0,0⟩:=by kernel_rfl
theorem run_mkh (w:World) {n:Nat} (hn:n≤1000):∃ w',(Instr.makeSlice 187 (.int .i64 (n:Int)) (.int .i64 (n:Int))).run Tryz.prog w=.ok (.slice (some ⟨w.heap.size,0,none⟩) n n) w'∧OwnL hLay w' w.heap.size 22 (some ⟨w.heap.size,0,none⟩) n n (List.replicate n (none,0,0))∧Keep (fun _=>False) w w'∧w'.heap.size=w.heap.size+1 :=
 run_makeL (P:=Tryz.prog) (L:=hLay) (x0:=(none,0,0)) (t:=187) (e:=22) (i:=(Tryz.prog.info? 22).get (by kernel_rfl)) (z:=((Tryz.prog.info? 22).get (by kernel_rfl)).zero.get (by kernel_rfl)) w (by kernel_rfl) (by kernel_rfl) (by kernel_rfl) (by kernel_rfl) (by kernel_rfl) n
  (by show n*1≤_;omega) (by have:((Tryz.prog.info? 22).get (by kernel_rfl)).bytes=24:=by kernel_rfl
                            rw [this];omega) (by simp only [maxLen];omega)
def RowEnd (p10:Option Addr) (l12:Nat) (lp:Option Addr) (ll lc:Nat) (w:World) (R:Value→World→Prop):Prop :=
 LoopC (σ:=(Option Addr×Nat×Nat)×Int×Unit) (fun _ s2 w K2=>Cb
 (decide (s2.2.1<((l12:Nat):Int))) (IdxS p10 l12 s2.2.1 1 fun b7 o4=>LdV b7 o4 (At w) fun v20=>OpS v20 fun p11 l13 c11=>SlArr p11 l13 16 fun b8 o5=>LdA 16 b8
 o5 (At w) fun cs6=>DoV Tryz.prog (Instr.buildSlice 32 1 #[(0,.agg cs6)]) w fun v21 w=>OpS v21 fun p12 l14 c12=>DoV Tryz.prog (Builtin.append_ #[32,32] 32 #[.slice
 s2.1.1 s2.1.2.1 s2.1.2.2,.slice p12 l14 c12]) w fun v22 w=>OpS v22 fun p13 l15 c13=>K2 ((p13,l15,c13),(IntKind.wrap .i64 (s2.2.1+1),())) w) (Ret [] (R (.tuple
 #[.slice s2.1.1 s2.1.2.1 s2.1.2.2,.slice lp ll lc,.int .i64 0]) w))) ((none,0,0),(0,())) w
section calls
variable {w:World} {R:Value→World→Prop}
theorem rowEnd {p10:Option Addr} {l12:Nat} {lp:Option Addr} {ll lc:Nat} {Hs:List (Option Addr×Nat×Nat)} {FR:List Sec} (hs:SlL hLay w p10 l12 Hs) (hl:Hs.length=FR.length) (hl2:FR.length≤32) (hat:∀ (k:Nat) h f,Hs[k]? = some h→FR[k]? = some f→ColAt w h (some f))
  (hK:∀ p c w',OwnL secLay w' w.heap.size 37 p FR.length c FR→Keep (fun _=>False) w w'→R (.tuple #[.slice p FR.length c,.slice lp ll lc,.int .i64 0]) w'):RowEnd p10 l12 lp ll lc w R:=by
 unfold RowEnd
 have hll:=hs.1
 refine LoopC_of (σ:=(Option Addr×Nat×Nat)×Int×Unit) (fun s w'=>∃ k:Nat,s.2.1=(k:Int)∧k≤FR.length∧s.1.2.1=k∧OwnL secLay w' w.heap.size 37 s.1.1 k s.1.2.2 (FR.take k)∧Keep (fun _=>False) w w') (fun s _=>(FR.length-s.2.1).toNat)
  ⟨0,rfl,by omega,rfl,OwnL.nil,Keep.refl _ _⟩ ?_
 rintro _ ⟨⟨p,l,c⟩,i,u⟩ w1 ⟨k,hi,hk,hlk,o1,k1⟩
 simp only at hi hlk o1 ⊢
 subst hi hlk
 refine Cb_of (fun hc=>?_) (fun hc=>?_)
 ·have hc:l<FR.length:=by
   have:(l:Int)<(l12:Int):=by simpa using hc
   omega
  obtain ⟨h,hh⟩:∃ h,Hs[l]? = some h:=⟨_,List.getElem?_eq_getElem (by omega)⟩
  obtain ⟨f,hf⟩:∃ f,FR[l]? = some f:=⟨_,List.getElem?_eq_getElem hc⟩
  obtain ⟨a1,a2,a3,a4⟩:=(hat l h f hh hf).keep k1
  refine (hs.keepB k1 (by simp)).ld0 (i:=(l:Int)) (n:=1) (x:=h) (v:=.slice h.1 h.2.1 h.2.2) rfl (by omega) (by simpa using hh) rfl (zC.2 ?_)
  rw [a2]
  refine ldSec a4 a1 ?_
  refine ⟨_,_,bsl_s1 f w1,zC.2 ?_⟩
  have k2:=Keep.new (fun _=>False) w1 (.cells (secV f) 37)
  have hb2:=Has.new w1 (.cells (secV f) 37)
  generalize w1.alloc (.cells (secV f) 37)=w2 at *
  have z1:=k1.size
  have z2:=k2.size
  obtain ⟨p3,c3,w3,hr3,o3,k3,_⟩:=run_appendF1 secLayT (o1.keep k2 (by simp)) (y:=f) hb2 (by show secV f=((secV f).toList).toArray;simp) (ty:=32) (by omega) (by simp only [maxLen];omega) (by omega) (c2:=1)
  refine ⟨_,_,hr3,zC.2 ?_⟩
  have ek:IntKind.wrap .i64 ((l:Int)+1)=((l+1:Nat):Int):=by rw [wrapI (by omega) (by omega)];omega
  refine ⟨_,by show ((FR.length:Int)-IntKind.wrap .i64 ((l:Int)+1)).toNat<((FR.length:Int)-(l:Int)).toNat;rw [ek];omega,⟨l+1,ek,by omega,rfl,by rw [List.take_add_one,hf];exact o3,(k1.trans k2).trans' k3 fun i hi e=>by have:=(o1.keep k2 (by simp)).lt e;omega⟩,rfl⟩
 ·have hc:l=FR.length:=by
   have:¬ (l:Int)<(l12:Int):=by simpa using hc
   omega
  subst hc
  rw [List.take_length] at o1
  exact Ret_nil.2 (hK p c w1 o1 k1)
end calls
def HdrAt (w:World) (Cs:List (Option Sec)) (Hs:List (Option Addr×Nat×Nat)) (i:Nat):Prop :=
 Hs.length=Cs.length∧∀ (k:Nat) h,Hs[k]? = some h→(k<i→∀ C,Cs[k]? = some C→SecAt w h C)∧(i≤k→h=(none,0,0))
theorem HdrAt.keep {w w':World} {S:Nat→Prop} {Cs:List (Option Sec)} {Hs:List (Option Addr×Nat×Nat)} {i:Nat} (h:HdrAt w Cs Hs i) (k:Keep S w w') (hS:∀ b cs,Has w b (.cells cs 37 (0,0))→¬ S b):HdrAt w' Cs Hs i :=
 ⟨h.1,fun j a ha=>⟨fun hj C hC=>((h.2 j a ha).1 hj C hC).keep k hS,(h.2 j a ha).2⟩⟩
theorem HdrAt.zero {w:World} {Cs:List (Option Sec)} {n:Nat} (hn:Cs.length=n):HdrAt w Cs (List.replicate n (none,0,0)) 0 :=
 ⟨by simp [hn],fun k h hh=>⟨fun hk=>absurd hk (by omega),fun _=>by
  rw [List.getElem?_replicate] at hh
  split at hh
  ·exact (Option.some.inj hh).symm
  ·cases hh⟩⟩
theorem HdrAt.lost {w:World} {Cs:List (Option Sec)} {Hs:List (Option Addr×Nat×Nat)} {i:Nat} (h:HdrAt w Cs Hs i) (hC:Cs[i]? = some none):HdrAt w Cs Hs (i+1) :=
 ⟨h.1,fun k a ha=>⟨fun hk C hC'=>by
  by_cases hki:k=i
  ·subst hki
   rw [hC] at hC'
   cases hC'
   exact (h.2 k a ha).2 (Nat.le_refl _)
  ·exact (h.2 k a ha).1 (by omega) C hC',fun hk=>(h.2 k a ha).2 (by omega)⟩⟩
theorem HdrAt.got {w:World} {Cs:List (Option Sec)} {Hs:List (Option Addr×Nat×Nat)} {i:Nat} (h:HdrAt w Cs Hs i) {f:Sec} {x:Option Addr×Nat×Nat} (hC:Cs[i]? = some (some f)) (hx:SecAt w x (some f)):HdrAt w Cs (Hs.set i x) (i+1):=by
 refine ⟨by rw [List.length_set];exact h.1,fun k a ha=>?_⟩
 by_cases hki:i=k
 ·subst hki
  have hlt:i<Hs.length:=by
   have:=(List.getElem?_eq_some_iff.1 ha).1
   rwa [List.length_set] at this
  rw [List.getElem?_set_self hlt] at ha
  cases ha
  refine ⟨fun _ C hC'=>?_,fun hk=>absurd hk (by omega)⟩
  rw [hC] at hC'
  cases hC'
  exact hx
 ·rw [List.getElem?_set_ne hki] at ha
  exact ⟨fun hk C hC'=>(h.2 k a ha).1 (by omega) C hC',fun hk=>(h.2 k a ha).2 (by omega)⟩
theorem HdrAt.all {w:World} {Cs:List (Option Sec)} {Hs:List (Option Addr×Nat×Nat)} (h:HdrAt w Cs Hs Cs.length):∀ (k:Nat) x C,Hs[k]? = some x→Cs[k]? = some C→ColAt w x C:=fun k x C hx hC =>
 SecAt.col ((h.2 k x hx).1 (List.getElem?_eq_some_iff.1 hC).1 C hC)
theorem plcP_ok {g:Geo} (hg:GeoOk g) {st off:Int} (hst:0≤st∧st<g.s) (hof:0≤off∧off<g.c) (k:Int):(0≤(plcP g st off k).dk∧(plcP g st off k).dk<g.d)∧(0≤(plcP g st off k).at_∧(plcP g st off k).at_<g.c*g.s):=by
 have h:=hg.row hst hof
 have hd:=hg.d
 exact ⟨⟨Int.emod_nonneg _ (by omega),Int.emod_lt_of_pos _ (by omega)⟩,⟨h.2.1,h.2.2⟩⟩
def RowMid (p1:Option Addr) (l1 c1:Nat) (lp:Option Addr) (ll lc:Nat) (w:World) (R:Value→World→Prop):Prop :=
 HeldR w fun S w=>Slc l1 c1 none (some (IntKind.wrap .i64 (((l1:Nat):Int)-2))) none fun l5 h1 m1 =>
 IdxS p1 l1 (IntKind.wrap .i64 (((l1:Nat):Int)-2)) 1 fun b5 o2=>LdV b5 o2 (At w) fun v11=>OpS v11 fun p4 l6 c4=>IdxS p1 l1 (IntKind.wrap .i64 ((IntKind.wrap
 .i64 (((l1:Nat):Int)-2))+1)) 1 fun b6 o3=>LdV b6 o3 (At w) fun v12=>OpS v12 fun p5 l7 c5=>zB Tryz.prog 110 #[.slice (slcP 1 l5 m1 p1) (h1-l5) (m1-l5),
 .slice p4 l6 c4,.slice p5 l7 c5] w fun v13 w=>T4 v13 fun v14 v15 v16 v17=>OpS v14 fun p6 l8 c6=>OpS v15 fun p7 l9 c7=>OpS v16 fun p8 l10 c8=>OpI .i64 v17 fun n3
 => Hld (S w) (DoV Tryz.prog (Instr.buildSlice 187 2 #[(0,.slice p7 l9 c7),(1,.slice p8 l10 c8)]) w fun v18 w=>OpS v18 fun p9 l11 c9=>DoV Tryz.prog (Builtin.append_
 #[187,187] 187 #[.slice p6 l8 c6,.slice p9 l11 c9]) w fun v19 w=>OpS v19 fun p10 l12 c10=>RowEnd p10 l12 lp ll lc w R)
section calls
variable {w:World} {R:Value→World→Prop}
theorem rowMid {p1:Option Addr} {n c1:Nat} {lp:Option Addr} {ll lc:Nat} {Hs:List (Option Addr×Nat×Nat)} {Cs:List (Option Sec)} (hs:SlL hLay w p1 n Hs) (hnc:n≤c1) (hn:n=Cs.length) (hn4:4≤n∧n≤32) (hl:Hs.length=Cs.length) (hat:∀ (k:Nat) x C,Hs[k]? = some x→Cs[k]? = some C→ColAt w x C) (hok:∀ C∈Cs,ColOk C) (hlost:lostN Cs≤2)
  (hK:∀ p c w',OwnL secLay w' w.heap.size 37 p n c (rowR Cs)→Keep (fun _=>False) w w'→R (.tuple #[.slice p n c,.slice lp ll lc,.int .i64 0]) w'):RowMid p1 n c1 lp ll lc w R:=by
 unfold RowMid
 intro d
 refine ⟨fun _=>True,trivial,?_⟩
 have kd:=Keep.drew (fun _=>False) w d
 have hs1:=hs.keepB kd (by simp)
 have hat1:∀ (k:Nat) x C,Hs[k]? = some x→Cs[k]? = some C→ColAt (w.dr d) x C:=fun k x C h1 h2=>(hat k x C h1 h2).keep kd
 have z1:=kd.size
 generalize w.dr d=w1 at *
 have e2:IntKind.wrap .i64 (((n:Nat):Int)-2)=((n-2:Nat):Int):=by rw [wrapI (by omega) (by omega)];omega
 have e1:IntKind.wrap .i64 (((n-2:Nat):Int)+1)=((n-1:Nat):Int):=by rw [wrapI (by omega) (by omega)];omega
 rw [e2,e1]
 refine Slc_hiN (hi:=n-2) (by omega) ?_
 obtain ⟨hP,hhP⟩:∃ h,Hs[n-2]? = some h:=⟨_,List.getElem?_eq_getElem (by omega)⟩
 obtain ⟨hQ,hhQ⟩:∃ h,Hs[n-1]? = some h:=⟨_,List.getElem?_eq_getElem (by omega)⟩
 have hCP:Cs[n-2]? = some (rowPc Cs):=by
  unfold rowPc
  rw [← hn,List.getD_eq_getElem?_getD,List.getElem?_eq_getElem (by omega)];rfl
 have hCQ:Cs[n-1]? = some (rowQc Cs):=by
  unfold rowQc
  rw [← hn,List.getD_eq_getElem?_getD,List.getElem?_eq_getElem (by omega)];rfl
 refine hs1.ld0 (i:=((n-2:Nat):Int)) (n:=1) (x:=hP) (v:=.slice hP.1 hP.2.1 hP.2.2) rfl (by omega) (by rw [Int.toNat_natCast];exact hhP) rfl (zC.2 ?_)
 refine hs1.ld0 (i:=((n-1:Nat):Int)) (n:=1) (x:=hQ) (v:=.slice hQ.1 hQ.2.1 hQ.2.2) rfl (by omega) (by rw [Int.toNat_natCast];exact hhQ) rfl (zC.2 ?_)
 have hsub:=hs1.sub (lo:=0) (hi:=n-2) (m:=c1) (by omega) (by omega) (by omega)
 rw [List.drop_zero] at hsub
 have hsplit:=lost_split (Cs:=Cs) (by omega)
 have hlD:(rowD Cs).length=n-2:=by unfold rowD;rw [List.length_take];omega
 have hc:Cols w1 (slcP 1 0 c1 p1) (n-2-0) (Hs.take (n-2)) (rowD Cs):=by
  refine ⟨hsub,by rw [hlD,List.length_take];omega,fun i h C h1 h2=>?_,fun C hC=>hok C (List.mem_of_mem_take hC)⟩
  unfold rowD at h2
  rw [List.getElem?_take] at h1 h2
  split at h1
  ·split at h2
   ·exact hat1 i h C h1 h2
   ·cases h2
  ·cases h1
 refine p_Recover hc (by omega) (by omega) (hat1 _ _ _ hhP hCP) (hat1 _ _ _ hhQ hCQ) (hok _ (List.mem_of_getElem? hCP)) (hok _ (List.mem_of_getElem? hCQ)) (by omega) fun pa ca g1 g2 w2 hA c2P c2Q k2=>?_
 refine ⟨_,_,_,_,rfl,zC.2 (zC.2 (zC.2 (zA.2 ⟨trivial,?_⟩)))⟩
 refine ⟨_,_,bsl_h2 _ _ _ _ _ _ w2,zC.2 ?_⟩
 have k3:=Keep.new (fun _=>False) w2 (.cells #[.slice g1.1 g1.2.1 g1.2.2,.slice g2.1 g2.2.1 g2.2.2] 22)
 have hb3:=Has.new w2 (.cells #[.slice g1.1 g1.2.1 g1.2.2,.slice g2.1 g2.2.1 g2.2.2] 22)
 generalize hw3:w2.alloc (.cells #[.slice g1.1 g1.2.1 g1.2.2,.slice g2.1 g2.2.1 g2.2.2] 22)=w3 at *
 have o3:OwnL hLay w3 w2.heap.size 22 (some ⟨w2.heap.size,0,none⟩) 2 2 [g1,g2]:=OwnL.mk (xs:=[g1,g2]) (Nat.le_refl _) hb3 (by simp [maxLen]) rfl
 obtain ⟨Ha,oa,hHl,hHat,hHok⟩:=hA.ex
 have hHl2:Ha.length=n-2:=by rw [hHl,len_fixC,hlD]
 have oa3:=oa.keep k3 (by simp)
 have z2:=k2.size
 have z3:=k3.size
 obtain ⟨p4,c4,w4,hr4,o4,k4,_⟩:=run_appendF hLayT oa3 (ys:=[g1,g2]) o3.sl (ty:=187) (c2:=2) (by omega) (by simp only [maxLen];omega) (by omega)
 refine ⟨_,_,hr4,zC.2 ?_⟩
 have hlr:=len_rowR (Cs:=Cs) (by omega)
 have hl4:n-2-0+2=n:=by omega
 have hfs:=fix_some (Cs:=rowD Cs) (Pc:=rowPc Cs) (Qc:=rowQc Cs) (by omega)
 have k14:Keep (fun _=>False) w1 w4:=(k2.trans k3).trans' k4 fun k hk he=>by have:=(oa3.lt he).1;omega
 have k24:Keep (fun k=>pa=some ⟨k,0,none⟩) w3 w4:=k4
 have colK:∀ {x:Option Addr×Nat×Nat} {f:Sec},ColOwn w2 0 x (some f)→ColAt w4 x (some f):=by
  intro x f hx
  have h3:ColOwn w3 0 x (some f):=hx.keep k3
  exact (h3.hdr oa3 (by decide) k4).at_
 refine rowEnd (Hs:=Ha++[g1,g2]) (FR:=rowR Cs) o4.sl (by rw [List.length_append,hlr];simp;omega) (by omega) ?_ fun p c w5 o5 k5=>?_
 ·intro k h f hh hf
  unfold rowR at hf
  by_cases hk:k<n-2
  ·rw [List.getElem?_append_left (by omega)] at hh
   rw [List.getElem?_append_left (by rw [List.length_map,len_fixC,hlD];omega),List.getElem?_map] at hf
   obtain ⟨C,hC⟩:∃ C,(fixC (rowD Cs) (rowPc Cs) (rowQc Cs))[k]? = some C:=⟨_,List.getElem?_eq_getElem (by rw [len_fixC,hlD];omega)⟩
   rw [hC] at hf
   obtain ⟨f',rfl⟩:=hfs C (List.mem_of_getElem? hC)
   cases hf
   have h2:ColOwn w2 w1.heap.size h (some f'):=hHat k h _ hh hC
   have h3:ColOwn w3 w1.heap.size h (some f'):=h2.keep k3
   exact (h3.hdr oa3 (by decide) k4).at_
  ·rw [List.getElem?_append_right (by omega)] at hh
   rw [List.getElem?_append_right (by rw [List.length_map,len_fixC,hlD];omega),List.length_map,len_fixC,hlD] at hf
   rw [hHl2] at hh
   generalize k-(n-2)=j at *
   match j,hh,hf with
   | 0,hh,hf=>cases hh;cases hf;exact colK c2P
   | 1,hh,hf=>cases hh;cases hf;exact colK c2Q
   | j+2,hh,hf=>simp at hh
 ·rw [hlr,← hn] at o5 ⊢
  exact hK p c w5 (o5.rebase (by have:=k14.size;omega)) ((kd.trans k14).trans k5)
theorem st_Row {q:SB} {s:SS} (h:SetAt w q s) {p:Option Addr} {l c:Nat} (hsl:SlL dLay w p l (q.bks.map Prod.fst)) (hlc:l≤c) (hok:∀ D∈s.ds,DskOk D) {st off:Int} (hst:0≤st∧st<q.g.s) (hof:0≤off∧off<q.g.c)
  (hOff:s.pw.on=false→∀ w',Keep (fun _=>False) w w'→R (.tuple #[.slice none 0 0,.slice none 0 0,.int .i64 4]) w')
  (hLost:s.pw.on=true→¬ lostN (colsS q.g s st off)≤2→∀ w',Keep (fun _=>False) w w'→R (.tuple #[.slice none 0 0,.slice none 0 0,.int .i64 8]) w')
  (hK:s.pw.on=true→lostN (colsS q.g s st off)≤2→∀ p' c' lp ll lc w',OwnL secLay w' w.heap.size 37 p' q.g.d.toNat c' (rowR (colsS q.g s st off))→OwnL nLay w' w.heap.size 3 lp ll lc (goneL (colsS q.g s st off))→Keep (fun _=>False) w w'→R (.tuple #[.slice p' q.g.d.toNat c',.slice lp ll lc,.int .i64 0]) w') :
  zB Tryz.prog 31 #[.agg (setV q.g p l c),.int .i64 st,.int .i64 off] w R:=by
 apply C_stripe_Row
 unfold F_stripe_Row
 have hgd:=h.geo.d
 refine alc_fresh fun w1 hb1 k1 z1=>?_
 refine LdA_all hb1 rfl ?_
 refine st_Check (h.keep0 k1) (hsl.keepB k1 (by simp)) hlc fun w2 k2=>?_
 refine zA.2 ((Cb_false (p:=_)).2 ?_)
 have hb2:=k2.has hb1 (by simp)
 refine LdA_has (cs:=geoV q.g) hb2 (by show 0+3≤4;decide) rfl ?_
 refine l_Row h.geo hst hof fun pp cp w3 o3 k3=>?_
 refine T2_mk.2 (zC.2 (zA.2 ((Cb_false (p:=_)).2 ?_)))
 obtain ⟨w4,hr4,o4,k4,z4⟩:=run_mkh w3 (n:=q.g.d.toNat) (by omega)
 refine ⟨_,_,hr4,zC.2 ?_⟩
 generalize hCs:colsS q.g s st off=Cs at *
 have hCl:Cs.length=q.g.d.toNat:=by rw [← hCs];exact len_colsS _ _ _ _
 have hCok:∀ C∈Cs,ColOk C:=by rw [← hCs];exact colsS_ok hok
 have k03:=(k1.trans k2).trans k3
 have z3:=k03.size
 have hb4:=(k3.trans k4).has hb2 (by simp)
 have o34:=(o3.keep k4 (by simp)).rebase (show w.heap.size≤w2.heap.size from (k1.trans k2).size)
 have o4:=o4.rebase z3
 generalize hB:w.heap.size=B at *
 generalize hH:w3.heap.size=H at *
 generalize hN:q.g.d.toNat=n at *
 have hnd:(n:Int)=q.g.d:=by omega
 refine LoopC_of (σ:=(Option Addr×Nat×Nat)×(Option Addr×Nat×Nat)×Int×Unit) (fun st' w'=>∃ (i:Nat) (Hs:List (Option Addr×Nat×Nat)),st'.1=(none,0,0)∧st'.2.2.1=(i:Int)∧i≤n∧(0<i→s.pw.on=true)∧HdrAt w' Cs Hs i∧OwnL hLay w' B 22 (some ⟨H,0,none⟩) n n Hs∧OwnL nLay w' B 3 st'.2.1.1 st'.2.1.2.1 st'.2.1.2.2 (goneI Cs i)∧OwnL plLay w' B 84 pp n cp (rowP q.g st off n)∧Has w' B (.cells (setV q.g p l c) 51 (0,0))∧Keep (fun _=>False) w w') (fun st' _=>(n-st'.2.2.1).toNat)
  ⟨0,_,rfl,rfl,by omega,fun h=>absurd h (by omega),HdrAt.zero hCl,o4,OwnL.nil,o34,hb4,k03.trans k4⟩ ?_
 rintro _ ⟨⟨pa,la,ca⟩,⟨pg,lg,cg⟩,i,u⟩ w5 ⟨i',Hs,ha,hi,hil,hon,hH5,oh,og,op,hb5,k5⟩
 simp only at ha hi og ⊢
 subst hi
 cases ha
 have hsl5:=hsl.keepB k5 (by simp)
 have h5:=h.keep0 k5
 have z5:=k5.size
 have e3:i'<n→IntKind.wrap .i64 ((i':Int)+1)=((i'+1:Nat):Int):=fun _=>by rw [wrapI (by omega) (by omega)];omega
 refine Cb_of (fun hc=>?_) (fun hc=>?_)
 ·have hc:i'<n:=by
   have:(i':Int)<(n:Int):=by simpa using hc
   omega
  have hpl:(rowP q.g st off n)[i']? = some (plcP q.g st off (i':Int)):=by
   unfold rowP
   rw [List.getElem?_map,List.getElem?_range hc];rfl
  refine op.sl.ldA (i:=(i':Int)) (n:=2) (x:=plcP q.g st off (i':Int)) rfl (by omega) (by rw [Int.toNat_natCast];exact hpl) ?_
  refine copy_of (by rw [zc_plc];rfl) rfl (fun v hv=>plLay.one _ v (by simpa using hv)) fun w6 hb6 k6 z6=>?_
  have hb6:Has w6 w5.heap.size (.cells (plcV (plcP q.g st off (i':Int))) 84 (0,0)):=hb6
  refine LdA_all (k6.has hb5 (by simp)) rfl ?_
  refine LdA_all hb6 rfl ?_
  obtain ⟨pk1,pk2⟩:=plcP_ok h.geo hst hof (i':Int)
  refine st_cell (h5.keep0 k6) (hsl5.keepB k6 (by simp)) pk1 pk2 hok fun w7 k7=>?_
  have hCi:Cs[i']? = some (cellD (s.ds.getD (plcP q.g st off (i':Int)).dk.toNat dsk0) (plcP q.g st off (i':Int)).at_):=by
   rw [← hCs]
   exact colsS_at (by omega)
  generalize cellD (s.ds.getD (plcP q.g st off (i':Int)).dk.toNat dsk0) (plcP q.g st off (i':Int)).at_=C at *
  have k57:=k6.trans k7
  unfold cellV
  by_cases hp:s.pw.on=false
  ·rw [if_pos hp]
   refine ⟨_,_,_,rfl,OpA_agg.2 ⟨rfl,OpB_bool.2 (zA.2 ?_)⟩⟩
   refine alc_fresh fun w8 hb8 k8 z8=>?_
   refine StA_all hb8 rfl (by rw [zc_sec];rfl) (one_secV _) ?_
   refine (Cb_true (q:=_)).2 (Ret_nil.2 (hOff hp _ ?_))
   exact (Keep.refl (fun _=>False) w).trans' ((((k5.trans k57).trans k8).mono fun _ h=>h.elim).upd (S:=fun k=>k=w7.heap.size) (fun _=>rfl) _) fun i hi e=>by have:=(k5.trans k57).size;omega
  rw [if_neg hp]
  have hp:s.pw.on=true:=by simpa using hp
  refine ⟨_,_,_,rfl,OpA_agg.2 ⟨rfl,OpB_bool.2 (zA.2 ?_)⟩⟩
  refine alc_fresh fun w8 hb8 k8 z8=>?_
  refine StA_all hb8 rfl (by rw [zc_sec];rfl) (one_secV _) ?_
  refine (Cb_false (p:=_)).2 ?_
  have hz7:=(k5.trans k57).size
  have hb9:=hb8.upd_same (.cells (secV (C.getD (sec []))) 37 (0,0))
  have k59:Keep (fun _=>False) w5 (w8.upd w7.heap.size (.cells (secV (C.getD (sec []))) 37 (0,0))):=(Keep.refl (fun _=>False) w5).trans' (((k57.trans k8).mono fun _ h=>h.elim).upd (S:=fun k=>k=w7.heap.size) (fun _=>rfl) _) fun i hi e=>by have:=k57.size;omega
  generalize hbx:w7.heap.size=bx at *
  generalize w8.upd bx (.cells (secV (C.getD (sec []))) 37 (0,0))=w9 at *
  have k09:=k5.trans k59
  have oh9:=oh.keep k59 (by simp)
  have og9:=og.keep k59 (by simp)
  have op9:=op.keep k59 (by simp)
  have hs9:=k59.has hb5 (by simp)
  have hH9:=hH5.keep k59 (by simp)
  have z9:=k09.size
  have hHl:=hH9.1
  have hgs:goneI Cs (i'+1)=goneI Cs i'++(if isGone Cs[i']? = true then [(i':Int)] else []):=rfl
  cases C with
  | some f =>
   refine (Cb_true (q:=_)).2 ?_
   refine Slc_all (by omega) ?_
   obtain ⟨h0,hh0⟩:∃ h0,Hs[i']? = some h0:=⟨_,List.getElem?_eq_getElem (by omega)⟩
   refine oh9.stF (i:=(i':Int)) (n:=1) (t:=0) (x:=h0) (y:=(some ⟨bx,0,none⟩,16,16)) rfl (by omega) (by rw [Int.toNat_natCast];exact hh0) (by omega) rfl rfl fun w10 oh10 k10 z10=>?_
   rw [Int.toNat_natCast] at oh10
   have ne1:∀ (b:Nat) (cs:Array Value),Has w9 b (.cells cs 37 (0,0))→¬ (some (⟨H,0,none⟩:Addr)=some ⟨b,0,none⟩):=fun b cs hb=>OwnL.neH oh9 hb (by decide)
   have hsx:SecAt w10 (some ⟨bx,0,none⟩,16,16) (some f):=⟨bx,rfl,k10.has hb9 (ne1 _ _ hb9)⟩
   have hH10:HdrAt w10 Cs (Hs.set i' (some ⟨bx,0,none⟩,16,16)) (i'+1):=(hH9.keep k10 ne1).got hCi hsx
   refine ⟨_,by show ((n:Int)-IntKind.wrap .i64 ((i':Int)+1)).toNat<((n:Int)-(i':Int)).toNat;rw [e3 hc];omega,⟨i'+1,_,rfl,e3 hc,by omega,fun _=>hp,hH10,oh10,?_,?_,?_,?_⟩,rfl⟩
   ·rw [hgs,hCi,if_neg (by simp [isGone]),List.append_nil]
    exact og9.keep k10 fun k hk he=>OwnL.ne og9 oh9 (by decide) hk he
   ·exact op9.keep k10 fun k hk he=>OwnL.ne op9 oh9 (by decide) hk he
   ·exact k10.has hs9 (OwnL.neH oh9 hs9 (by decide))
   ·exact k09.trans' k10 fun k hk he=>by have:=(oh9.lt he).1;omega
  | none =>
   refine (Cb_false (p:=_)).2 ?_
   refine ⟨_,_,bsl_n1 _ w9,zC.2 ?_⟩
   have k10:=Keep.new (fun _=>False) w9 (.cells #[.int .i64 (i':Int)] 3)
   have hb10:=Has.new w9 (.cells #[.int .i64 (i':Int)] 3)
   generalize w9.alloc (.cells #[.int .i64 (i':Int)] 3)=w10 at *
   have hlg:=og.length
   have hlgl:(goneI Cs i').length≤i':=by rw [goneI_len Cs i' (by omega)];exact Nat.le_trans (lostN_le _) (by rw [List.length_take];omega)
   have z10:=k10.size
   have og10:=og9.keep k10 (by simp)
   have oh10:=oh9.keep k10 (by simp)
   have op10:=op9.keep k10 (by simp)
   have hs10:=k10.has hs9 (by simp)
   obtain ⟨p11,c11,w11,hr11,o11,k11,_⟩:=run_appendF1 nLayT og10 (y:=(i':Int)) hb10 rfl (ty:=69) (by omega) (by simp only [maxLen];omega) (by omega) (c2:=1)
   refine ⟨_,_,hr11,zC.2 ?_⟩
   refine ⟨_,by show ((n:Int)-IntKind.wrap .i64 ((i':Int)+1)).toNat<((n:Int)-(i':Int)).toNat;rw [e3 hc];omega,⟨i'+1,Hs,rfl,e3 hc,by omega,fun _=>hp,?_,?_,?_,?_,?_,?_⟩,rfl⟩
   ·exact ((hH9.keep k10 (by simp)).keep k11 fun b cs hb=>OwnL.neH og10 hb (by decide)).lost hCi
   ·exact oh10.keep k11 fun k hk he=>OwnL.ne oh10 og10 (by decide) hk he
   ·rw [hgs,hCi,if_pos (show isGone (some none)=true from rfl)]
    exact o11
   ·exact op10.keep k11 fun k hk he=>OwnL.ne op10 og10 (by decide) hk he
   ·exact k11.has hs10 (OwnL.neH og10 hs10 (by decide))
   ·exact (k09.trans k10).trans' k11 fun k hk he=>by have:=(og10.lt he).1;omega
 ·have hc:i'=n:=by
   have:¬ (i':Int)<(n:Int):=by simpa using hc
   omega
  have hp:=hon (by omega)
  have hiC:i'=Cs.length:=by omega
  have hgl:goneI Cs i'=goneL Cs:=by rw [hiC];rfl
  rw [hgl] at og
  have hglen:=goneL_len Cs
  have hlg:=og.length
  refine Cb_of (fun hl3=>?_) (fun hl3=>?_)
  ·have hl3:lg>2:=by
    have:((lg:Nat):Int)>2:=by simpa using hl3
    omega
   exact Ret_nil.2 (hLost hp (by omega) w5 k5)
  ·have hl3:¬ lg>2:=by
    have:¬ ((lg:Nat):Int)>2:=by simpa using hl3
    omega
   rw [hiC] at hH5
   refine rowMid (Cs:=Cs) oh.sl (Nat.le_refl _) hCl.symm (by omega) hH5.1 hH5.all hCok (by omega) fun p' c' w6 o6 k6=>?_
   exact hK hp (by omega) p' c' pg lg cg w6 (o6.rebase (by rw [← hB];exact z5)) (og.keep k6 (by simp)) (k5.trans k6)
end calls
def readS (g:Geo) (s:SS) (lba:Int):Sec×Int :=
 let x:=spotP g lba
 let Cs:=colsS g s x.1 x.2.2
 if s.pw.on=false then (sec [],4)
 else match Cs.getD x.2.1.toNat none with
  | some f=>(f,0)
  | none=>if lostN Cs≤2 then ((rowR Cs).getD x.2.1.toNat (sec []),0) else (sec [],8)
theorem zc_spot:zc Tryz.prog 177=spotV (0,0,0):=by kernel_rfl
section calls
variable {w:World} {q:SB} {s:SS} {R:Value→World→Prop}
theorem st_Read (h:SetAt w q s) {p:Option Addr} {l c:Nat} (hsl:SlL dLay w p l (q.bks.map Prod.fst)) (hlc:l≤c) (hok:∀ D∈s.ds,DskOk D) {lba:Int} (h0:0≤lba) (h1:lba<(q.g.d-2)*q.g.c*q.g.s)
  (hK:∀ w',Keep (fun _=>False) w w'→R (.tuple #[.agg (secV (readS q.g s lba).1),.int .i64 (readS q.g s lba).2]) w'):zB Tryz.prog 29 #[.agg (setV q.g p l c),.int .i64 lba] w R:=by
 apply C_stripe_Read
 unfold F_stripe_Read
 obtain ⟨pst,pco,pof⟩:=spotP_ok h.geo h0 h1
 have hgd:=h.geo.d
 unfold readS at hK
 generalize hx:spotP q.g lba=x at *
 simp only at hK
 refine alc_fresh fun w1 hb1 k1 z1=>?_
 refine alc_fresh fun w2 hb2 k2 z2=>?_
 rw [zc_sec] at hb2
 have hs2:=k2.has hb1 (by simp)
 have k02:=k1.trans k2
 refine LdA_all hs2 rfl ?_
 refine st_Check (h.keep0 k02) (hsl.keepB k02 (by simp)) hlc fun w3 k3=>?_
 refine zA.2 ((Cb_false (p:=_)).2 ?_)
 refine LdA_has (cs:=geoV q.g) (k3.has hs2 (by simp)) (by show 0+3≤4;decide) rfl ?_
 refine l_Map h.geo h0 h1 fun w4 k4=>?_
 rw [hx]
 refine ⟨_,_,_,rfl,OpA_agg.2 ⟨rfl,OpA_agg.2 ⟨rfl,zA.2 ?_⟩⟩⟩
 refine alc_fresh fun w5 hb5 k5 z5=>?_
 refine alc_fresh fun w6 hb6 k6 z6=>?_
 have hb56:=k6.has hb5 (by simp)
 have k26:=((k3.trans k4).trans k5).trans k6
 have z26:w2.heap.size≤w4.heap.size:=(k3.trans k4).size
 have z02:=k02.size
 refine StA_all hb56 rfl (by rw [zc_spot];rfl) (one_spotV x) ?_
 have hb7:=hb56.upd_same (.cells (spotV x) 177 (0,0))
 have hb6':Has (w6.upd w4.heap.size (.cells (spotV x) 177 (0,0))) w5.heap.size (.cells (zc Tryz.prog 84) 84 (0,0)):=Has.upd hb6 (by omega)
 have k27:Keep (fun _=>False) w2 (w6.upd w4.heap.size (.cells (spotV x) 177 (0,0))):=(Keep.refl (fun _=>False) w2).trans' ((k26.mono fun _ h=>h.elim).upd (S:=fun k=>k=w4.heap.size) (fun _=>rfl) _) fun i hi e=>by omega
 refine StA_all hb6' rfl (by rw [zc_plc];rfl) (one_plcV _) ?_
 have hb8:=hb6'.upd_same (.cells (plcV (plcP q.g x.1 x.2.2 x.2.1)) 84 (0,0))
 have hb78:Has ((w6.upd w4.heap.size (.cells (spotV x) 177 (0,0))).upd w5.heap.size (.cells (plcV (plcP q.g x.1 x.2.2 x.2.1)) 84 (0,0))) w4.heap.size (.cells (spotV x) 177 (0,0)):=Has.upd hb7 (by omega)
 have k28:Keep (fun _=>False) w2 ((w6.upd w4.heap.size (.cells (spotV x) 177 (0,0))).upd w5.heap.size (.cells (plcV (plcP q.g x.1 x.2.2 x.2.1)) 84 (0,0))):=(Keep.refl (fun _=>False) w2).trans' ((k27.mono fun _ h=>h.elim).upd (S:=fun k=>k=w5.heap.size) (fun _=>rfl) _) fun i hi e=>by omega
 generalize (w6.upd w4.heap.size (.cells (spotV x) 177 (0,0))).upd w5.heap.size (.cells (plcV (plcP q.g x.1 x.2.2 x.2.1)) 84 (0,0))=w8 at *
 have k08:=k02.trans k28
 have hs8:=k28.has hs2 (by simp)
 have hr8:=k28.has hb2 (by simp)
 have hbr:w.heap.size≤w1.heap.size:=by omega
 generalize w1.heap.size=br at *
 generalize w4.heap.size=bs at *
 generalize w5.heap.size=bp at *
 refine (Cb_false (p:=_)).2 ?_
 refine LdA_all hs8 rfl ?_
 refine LdA_all hb8 rfl ?_
 obtain ⟨pk1,pk2⟩:=plcP_ok h.geo pst pof x.2.1
 refine st_cell (h.keep0 k08) (hsl.keepB k08 (by simp)) pk1 pk2 hok fun w9 k9=>?_
 have hCi:(colsS q.g s x.1 x.2.2).getD x.2.1.toNat none=cellD (s.ds.getD (plcP q.g x.1 x.2.2 x.2.1).dk.toNat dsk0) (plcP q.g x.1 x.2.2 x.2.1).at_:=by
  have e:((x.2.1.toNat:Nat):Int)=x.2.1:=by omega
  rw [List.getD_eq_getElem?_getD,colsS_at (by omega),e];rfl
 rw [hCi] at hK
 generalize cellD (s.ds.getD (plcP q.g x.1 x.2.2 x.2.1).dk.toNat dsk0) (plcP q.g x.1 x.2.2 x.2.1).at_=C at *
 have k09:=k08.trans k9
 have hr9:=k9.has hr8 (by simp)
 have hs9:=k9.has hs8 (by simp)
 have ht9:=k9.has hb78 (by simp)
 have fin:∀ (f:Sec) (e:Int) (wa:World),Has wa br (.cells (secV (sec [])) 37 (0,0))→Keep (fun _=>False) w wa→(∀ w',Keep (fun _=>False) w w'→R (.tuple #[.agg (secV f),.int .i64 e]) w')→StA 16 br 0 (secV f) wa fun w=>LdA 16 br 0 (At w) fun cs=>Ret [] (R (.tuple #[.agg cs,.int .i64 e]) w):=by
  intro f e wa ha ka hr
  refine StA_all ha rfl rfl (one_secV f) ?_
  refine LdA_all (ha.upd_same _) rfl ?_
  exact Ret_nil.2 (hr _ ((Keep.refl (fun _=>False) w).trans' ((ka.mono fun _ h=>h.elim).upd (S:=fun k=>k=br) (fun _=>rfl) _) fun i hi e=>by omega))
 have bad:∀ (e:Int) (wa:World),Has wa br (.cells (secV (sec [])) 37 (0,0))→Keep (fun _=>False) w wa→(∀ w',Keep (fun _=>False) w w'→R (.tuple #[.agg (secV (sec [])),.int .i64 e]) w')→DoQ Tryz.prog (Instr.build 37 #[]) (At wa) fun v7=>OpA 16 v7 fun cs1=>StA 16 br 0 cs1 wa fun w=>LdA 16 br 0 (At w) fun cs2=>Ret [] (R (.tuple #[.agg cs2,.int .i64 e]) w):=by
  intro e wa ha ka hr
  exact DoQ_of (fun d=>bld_sec0 _) (OpA_agg.2 ⟨rfl,fin _ _ _ ha ka hr⟩)
 have cellcase:∀ (f:Sec) (g:Bool) (e:Int),(g=true∨e≠0)→(∀ w',Keep (fun _=>False) w w'→R (.tuple #[.agg (secV f),.int .i64 e]) w')→∀ {Q:World→Prop},Alc 37 (zc Tryz.prog 37) w9 fun b4 w=>StA 16 b4 0 (secV f) w fun w=>Req (g=g) (Req (g=g) (Cb (cond g true (e !=0)) (LdA 16 b4 0 (At w) fun cs11=>StA 16 br 0 cs11 w fun w=>LdA 16 br 0 (At w) fun cs12=>Ret [] (R (.tuple #[.agg cs12,.int .i64 e]) w)) (Q w))):=by
  intro f g e hg hr Q
  refine copy_of (by rw [zc_sec];rfl) rfl (one_secV f) fun w10 hb10 k10 z10=>?_
  refine ⟨rfl,rfl,?_⟩
  have hg:cond g true (e !=0)=true:=by
   rcases hg with hg | hg
   ·rw [hg];rfl
   ·cases g
    ·simpa using hg
    ·rfl
  rw [hg]
  refine (Cb_true (q:=_)).2 ?_
  refine LdA_all hb10 rfl ?_
  exact fin f e w10 (k10.has hr9 (by simp)) (k09.trans k10) hr
 unfold cellV
 by_cases hp:s.pw.on=false
 ·rw [if_pos hp] at hK ⊢
  refine ⟨_,_,_,rfl,OpA_agg.2 ⟨rfl,OpB_bool.2 (zA.2 ?_)⟩⟩
  exact cellcase _ false 4 (Or.inr (by decide)) hK
 rw [if_neg hp] at hK ⊢
 have hp:s.pw.on=true:=by simpa using hp
 refine ⟨_,_,_,rfl,OpA_agg.2 ⟨rfl,OpB_bool.2 (zA.2 ?_)⟩⟩
 cases C with
 | some f=>exact cellcase f true 0 (Or.inl rfl) hK
 | none =>
  refine copy_of (by rw [zc_sec];rfl) rfl (one_secV _) fun w10 hb10 k10 z10=>?_
  refine ⟨rfl,rfl,(Cb_false (p:=_)).2 ?_⟩
  have k010:=k09.trans k10
  have hs10:=k10.has hs9 (by simp)
  have ht10:=k10.has ht9 (by simp)
  have hr10:=k10.has hr9 (by simp)
  refine LdA_all hs10 rfl ?_
  refine LdV_has (v:=.int .i64 x.1) ht10 rfl (zA.2 ?_)
  refine LdV_has (v:=.int .i64 x.2.2) ht10 rfl (zA.2 ?_)
  refine st_Row (h.keep0 k010) (hsl.keepB k010 (by simp)) hlc hok pst pof (fun e=>by rw [hp] at e;cases e) ?_ ?_
  ·intro _ hl w11 k11
   refine ⟨_,_,_,rfl,zC.2 (zC.2 (zA.2 ((Cb_true (q:=_)).2 ?_)))⟩
   simp only at hK
   rw [if_neg hl] at hK
   exact bad 8 w11 (k11.has hr10 (by simp)) (k010.trans k11) hK
  ·intro _ hl p' c' lp ll lc w11 o11 on11 k11
   refine ⟨_,_,_,rfl,zC.2 (zC.2 (zA.2 ((Cb_false (p:=_)).2 ?_)))⟩
   simp only at hK
   rw [if_pos hl] at hK
   refine LdV_has (v:=.int .i64 x.2.1) (k11.has ht10 (by simp)) rfl (zA.2 ?_)
   have hlen:(rowR (colsS q.g s x.1 x.2.2)).length=q.g.d.toNat:=by rw [len_rowR (by rw [len_colsS];omega),len_colsS]
   obtain ⟨f,hf⟩:∃ f,(rowR (colsS q.g s x.1 x.2.2))[x.2.1.toNat]? = some f:=⟨_,List.getElem?_eq_getElem (by omega)⟩
   have hfd:(rowR (colsS q.g s x.1 x.2.2)).getD x.2.1.toNat (sec [])=f:=by rw [List.getD_eq_getElem?_getD,hf];rfl
   rw [hfd] at hK
   refine o11.sl.ldA (i:=x.2.1) (n:=16) (x:=f) rfl pco.1 hf ?_
   have e16:(secLay.row f).toArray=secV f:=by show ((secV f).toList).toArray=secV f;simp
   rw [e16]
   exact fin f 0 w11 (k11.has hr10 (by simp)) (k010.trans k11) hK
end calls
def rowW (row:List Sec) (col:Nat) (data:Sec):List Sec :=
 let D:=((row.set col data).take (row.length-2)).map some
 (row.set col data).take (row.length-2)++[sumP D,sumQ D]
def planK (g:Geo) (s:SS) (st off:Int) (row:List Sec) (k:Int):Option PutS :=
 if (s.ds.getD (plcP g st off k).dk.toNat dsk0).dead=true then none
 else some ⟨plcP g st off k,⟨row.getD k.toNat (sec []),sumS (plcP g st off k).at_ (row.getD k.toNat (sec []))⟩⟩
def planL (g:Geo) (s:SS) (st off:Int) (row:List Sec) (ks:List Int):List PutS:=ks.filterMap (planK g s st off row)
def planS (g:Geo) (s:SS) (lba:Int) (data:Sec):List PutS×Int :=
 let x:=spotP g lba
 let Cs:=colsS g s x.1 x.2.2
 if s.pw.on=false then ([],4)
 else if lostN Cs≤2 then (planL g s x.1 x.2.2 (rowW (rowR Cs) x.2.1.toNat data) [x.2.1,g.d-2,g.d-1],0) else ([],8)
theorem set_two {α:Type} {r:List α} {n:Nat} (h:r.length=n) (h2:2≤n) (a b:α):(r.set (n-2) a).set (n-1) b=r.take (n-2)++[a,b]:=by
 apply List.ext_getElem?
 intro i
 by_cases h1:i<n-2
 ·rw [List.getElem?_set_ne (by omega),List.getElem?_set_ne (by omega),List.getElem?_append_left (by simp;omega),List.getElem?_take,if_pos h1]
 ·rw [List.getElem?_append_right (by simp;omega),List.length_take,Nat.min_eq_left (by omega)]
  by_cases h3:i=n-2
  ·subst h3
   rw [List.getElem?_set_ne (by omega),List.getElem?_set_self (by omega),Nat.sub_self];rfl
  ·by_cases h4:i=n-1
   ·subst h4
    rw [List.getElem?_set_self (by simp;omega),show n-1-(n-2)=1 by omega];rfl
   ·rw [List.getElem?_eq_none (by simp;omega),List.getElem?_eq_none (by simp;omega)]
theorem rec_ok {Cs:List (Option Sec)} {Pc Qc:Option Sec} (h:∀ C∈Cs,ColOk C) (hp:ColOk Pc) (hq:ColOk Qc):SecOk (recP Cs Pc Qc)∧SecOk (recQ Cs Pc Qc):=by
 have hf:=fixC_ok (Pc:=Pc) (Qc:=Qc) h hp hq
 constructor
 ·unfold recP
  cases Pc with
  | none=>exact sumI_ok (fun _=>by omega) hf _
  | some f=>exact hp
 ·unfold recQ
  cases Qc with
  | none=>exact sumI_ok expN_lt hf _
  | some f=>exact hq
theorem rowPc_ok {Cs:List (Option Sec)} (h:∀ C∈Cs,ColOk C) (i:Nat):ColOk (Cs.getD i none):=by
 rw [List.getD_eq_getElem?_getD]
 cases hx:Cs[i]? with
 | none=>trivial
 | some x=>exact h x (List.mem_of_getElem? hx)
theorem rowR_ok {Cs:List (Option Sec)} (h:∀ C∈Cs,ColOk C):∀ f∈rowR Cs,SecOk f:=by
 intro f hf
 unfold rowR at hf
 have hD:∀ C∈rowD Cs,ColOk C:=fun C hC=>h C (List.mem_of_mem_take hC)
 have hr:=rec_ok (Pc:=rowPc Cs) (Qc:=rowQc Cs) hD (rowPc_ok h _) (rowPc_ok h _)
 have hfx:=fixC_ok (Pc:=rowPc Cs) (Qc:=rowQc Cs) hD (rowPc_ok h _) (rowPc_ok h _)
 rcases List.mem_append.1 hf with hf | hf
 ·obtain ⟨C,hC,rfl⟩:=List.mem_map.1 hf
  have:=hfx C hC
  cases C with
  | none=>exact sec0_ok
  | some f=>exact this
 ·simp only [List.mem_cons,List.not_mem_nil,or_false] at hf
  rcases hf with rfl | rfl
  ·exact hr.1
  ·exact hr.2
theorem map_some_ok {D:List Sec} (h:∀ f∈D,SecOk f):∀ C∈D.map some,ColOk C:=by
 intro C hC
 obtain ⟨f,hf,rfl⟩:=List.mem_map.1 hC
 exact h f hf
theorem lost_some (D:List Sec):lostN (D.map some)=0:=by
 unfold lostN
 induction D with
 | nil=>rfl
 | cons x D ih=>simp
theorem SlL.ldAS {α:Type} {L:Lay α} {S:World→Prop} {w0:World} {p:Option Addr} {l:Nat} {xs:List α} (h0:S w0) (h:∀ w',S w'→SlL L w' p l xs) {i:Int} {x:α} {n:Nat} (hn:L.size=n) (hi0:0≤i) (hi:xs[i.toNat]? = some x)
  {K:Array Value→Prop} (hK:K (L.row x).toArray):IdxS p l i n fun b o=>LdA n b o S K:=by
 subst hn
 obtain ⟨b,o,hp,_⟩:=(h w0 h0).2 _ x hi
 have hlt:=(List.getElem?_eq_some_iff.1 hi).1
 have hl:=(h w0 h0).1
 refine ⟨b,o,hp,hi0,by omega,(L.row x).toArray,by simp [L.len],?_,hK⟩
 intro w' hw j hj
 obtain ⟨b',o',hp',hc⟩:=(h w' hw).2 _ x hi
 rw [hp] at hp'
 cases hp'
 rw [hc j hj]
 simp
theorem puLayT:LayT Tryz.prog puLay 75 88 40:=⟨by kernel_rfl,⟨(Tryz.prog.info? 88).get (by kernel_rfl),((Tryz.prog.info? 88).get (by kernel_rfl)).zero.get (by kernel_rfl),by kernel_rfl,by kernel_rfl,by kernel_rfl,by kernel_rfl,by kernel_rfl⟩⟩
theorem bsl_pu1 (x:PutS) (w:World):(Instr.buildSlice 75 1 #[(0,.agg (putSV x))]).run Tryz.prog w=.ok (.slice (some ⟨w.heap.size,0,none⟩) 1 1) (w.alloc (.cells (putSV x) 88)) :=
 run_buildSlice w 75 88 1 _ (putSV x) ((Tryz.prog.info? 88).get (by kernel_rfl)) (((Tryz.prog.info? 88).get (by kernel_rfl)).zero.get (by kernel_rfl)) (by kernel_rfl) (by kernel_rfl) (by kernel_rfl) (by decide +kernel) (by decide +kernel) (by kernel_rfl)
theorem bld_put (x:PutS) (w:World):(Instr.build 88 #[(0,.agg (plcV x.plc)),(1,.agg (celV x.cel))]).run Tryz.prog w=.ok (.agg (putSV x)) w:=run_build _ _ _ _ (by kernel_rfl)
theorem bsl_n3 (x y z:Int) (w:World):(Instr.buildSlice 69 3 #[(0,.int .i64 x),(1,.int .i64 y),(2,.int .i64 z)]).run Tryz.prog w=.ok (.slice (some ⟨w.heap.size,0,none⟩) 3 3) (w.alloc (.cells #[.int .i64 x,.int .i64 y,.int .i64 z] 3)) :=
 run_buildSlice w 69 3 3 _ #[.int .i64 x,.int .i64 y,.int .i64 z] ((Tryz.prog.info? 3).get (by kernel_rfl)) (((Tryz.prog.info? 3).get (by kernel_rfl)).zero.get (by kernel_rfl)) (by kernel_rfl) (by kernel_rfl) (by kernel_rfl) (by decide +kernel) (by decide +kernel) (by kernel_rfl)
theorem slc16 (a:Addr):slcP 1 0 16 (some a)=some a:=by
 unfold slcP
 simp [Addr.add]
theorem sec_col {w:World} {b l:Nat} {rows:List Sec} (h:SlL secLay w (some ⟨b,0,none⟩) l rows) {k:Nat} {f:Sec} (hk:rows[k]? = some f):ColAt w (some ⟨b,0+k*16,none⟩,16,16) (some f):=by
 refine ⟨⟨b,0+k*16,rfl⟩,rfl,Nat.le_refl _,rfl,fun i x hi=>⟨b,0+k*16,rfl,fun j hj=>?_⟩⟩
 have hj:j=0:=by have:j<1:=hj;omega
 subst hj
 obtain ⟨b',o',e,hc⟩:=h.2 k f hk
 cases e
 have hi16:i<16:=(List.getElem?_eq_some_iff.1 hi).1
 have:=hc i hi16
 have e1:0+k*16+i*byLay.size+0=0+k*secLay.size+i:=by show 0+k*16+i*1+0=0+k*16+i;omega
 rw [e1,this]
 have e:(secLay.row f)=(secB f).map fun y=>Value.int .u8 y:=rfl
 rw [e,List.getElem?_map,hi];rfl
def hdrs (b n:Nat):List (Option Addr×Nat×Nat):=(List.range n).map fun k=>(some ⟨b,0+k*16,none⟩,16,16)
theorem hdrs_succ (b n:Nat):hdrs b (n+1)=hdrs b n++[(some ⟨b,0+n*16,none⟩,16,16)]:=by unfold hdrs;rw [List.range_succ,List.map_append];rfl
theorem len_hdrs (b n:Nat):(hdrs b n).length=n:=by simp [hdrs]
def PlanEnd (b b2:Nat) (p:Option Addr) (l:Nat) (p6:Option Addr) (l7:Nat) (p7:Option Addr) (l8:Nat) (w:World) (R:Value→World→Prop):Prop :=
 LoopC (σ:=(Option Addr×Nat×Nat)×Int×Unit) (fun _ s2 w K2=>Cb (decide (s2.2.1<((l8:Nat):Int))) (IdxS p7 l8 s2.2.1 1 fun b10 o6=>LdV b10 o6 (At w)
 fun v25=>OpI .i64 v25 fun n11=>IdxS p6 l7 n11 2 fun b11 o7=>LdA 2 b11 o7 (At w) fun cs9=>Alc 84 (zc Tryz.prog 84) w fun b12 w=>StA 2 b12 0 cs9 w fun w=>LdV b 3
 (At w) fun v26=>OpS v26 fun p8 l9 c8=>LdV b12 0 (At w) fun v27=>OpI .i64 v27 fun n12=>IdxS p8 l9 n12 1 fun b13 o8=>LdV b13 o8 (At w) fun v28=>OpN v28 fun b14
 o9=>zB Tryz.prog 87 #[.pointer (some ⟨b14,o9,none⟩)] w fun v29 w=>OpB v29 fun g=>Cb g (HeldR w fun S w=>LdA 2 b12 0 S fun cs10=>LdV b12 1 S fun v30=>OpI
 .i64 v30 fun n13=>IdxS p l n11 16 fun b15 o10=>LdA 16 b15 o10 S fun cs11=>zB Tryz.prog 116 #[.int .i64 n13,.agg cs11] w fun v31 w=>OpA 17 v31 fun cs12=>Hld (S
 w) (DoQ Tryz.prog (Instr.build 88 #[(0,.agg cs10),(1,.agg cs12)]) S fun v32=>OpA 19 v32 fun cs13=>DoV Tryz.prog (Instr.buildSlice 75 1 #[(0,.agg cs13)]) w fun v33 w
 => OpS v33 fun p9 l10 c9=>Hld (S w) (DoV Tryz.prog (Builtin.append_ #[75,75] 75 #[.slice s2.1.1 s2.1.2.1 s2.1.2.2,.slice p9 l10 c9]) w fun v34 w=>OpS v34 fun p10 l11
 c10=>Hld (S w) (K2 ((p10,l11,c10),(IntKind.wrap .i64 (s2.2.1+1),())) w)))) (K2 ((s2.1.1,s2.1.2.1,s2.1.2.2),(IntKind.wrap .i64 (s2.2.1+1),())) w)) (Ret [] (R
 (.tuple #[.slice s2.1.1 s2.1.2.1 s2.1.2.2,.int .i64 0]) w))) ((none,0,0),(0,())) w
section calls
variable {w:World} {q:SB} {s:SS} {R:Value→World→Prop}
theorem planEnd (h:SetAt w q s) {b b2:Nat} {dp:Option Addr} {dl dc:Nat} (hsl:SlL dLay w dp dl (q.bks.map Prod.fst)) {p p6:Option Addr} {cp cp6:Nat} {base:Nat} {row:List Sec} {bk:Nat} {ks:List Int} {st off:Int} (hst:0≤st∧st<q.g.s) (hof:0≤off∧off<q.g.c) {n:Nat} (hn:q.g.d.toNat=n)
  (hb:Has w b (.cells (setV q.g dp dl dc) 51 (0,0))) (o1:OwnL secLay w base 37 p n cp row) (o2:OwnL plLay w base 84 p6 n cp6 (rowP q.g st off n)) (o3:OwnL nLay w base 3 (some ⟨bk,0,none⟩) ks.length ks.length ks) (hks:∀ k∈ks,0≤k∧k<(n:Int)) (hkl:ks.length≤100)
  (hK:∀ p' c' w',OwnL puLay w' w.heap.size 88 p' (planL q.g s st off row ks).length c' (planL q.g s st off row ks)→Keep (fun _=>False) w w'→R (.tuple #[.slice p' (planL q.g s st off row ks).length c',.int .i64 0]) w'):PlanEnd b b2 p n p6 n (some ⟨bk,0,none⟩) ks.length w R:=by
 unfold PlanEnd
 have hgd:=h.geo.d
 have hrl:=o1.length
 have s1:=o1.sl
 have s2:=o2.sl
 have s3:=o3.sl
 refine LoopC_of (σ:=(Option Addr×Nat×Nat)×Int×Unit) (fun st' w'=>∃ j:Nat,st'.2.1=(j:Int)∧j≤ks.length∧OwnL puLay w' w.heap.size 88 st'.1.1 st'.1.2.1 st'.1.2.2 (planL q.g s st off row (ks.take j))∧Keep (fun _=>False) w w') (fun st' _=>(ks.length-st'.2.1).toNat)
  ⟨0,rfl,by omega,OwnL.nil,Keep.refl _ _⟩ ?_
 rintro _ ⟨⟨pa,la,ca⟩,i,u⟩ w1 ⟨j,hi,hj,oa,k1⟩
 simp only at hi oa ⊢
 subst hi
 refine Cb_of (fun hc=>?_) (fun hc=>?_)
 ·have hc:j<ks.length:=by
   have:(j:Int)<(ks.length:Int):=by simpa using hc
   omega
  have ek:IntKind.wrap .i64 ((j:Int)+1)=((j+1:Nat):Int):=by rw [wrapI (by omega) (by omega)];omega
  obtain ⟨k,hk⟩:∃ k,ks[j]? = some k:=⟨_,List.getElem?_eq_getElem hc⟩
  have hkr:=hks k (List.mem_of_getElem? hk)
  have hpk:planL q.g s st off row (ks.take (j+1))=planL q.g s st off row (ks.take j)++(planK q.g s st off row k).toList:=by
   unfold planL
   rw [List.take_add_one,hk,List.filterMap_append]
   congr 1
  refine (s3.keepB k1 (by simp)).ld0 (i:=(j:Int)) (n:=1) (x:=k) (v:=.int .i64 k) rfl (by omega) (by rw [Int.toNat_natCast];exact hk) rfl (zA.2 ?_)
  have hpl:(rowP q.g st off n)[k.toNat]? = some (plcP q.g st off k):=by
   unfold rowP
   rw [List.getElem?_map,List.getElem?_range (by omega)]
   show some (plcP q.g st off ((k.toNat:Nat):Int))=_
   rw [show ((k.toNat:Nat):Int)=k by omega]
  refine (s2.keepB k1 (by simp)).ldA (i:=k) (n:=2) (x:=plcP q.g st off k) rfl hkr.1 hpl ?_
  refine copy_of (by rw [zc_plc];rfl) rfl (fun v hv=>plLay.one _ v (by simpa using hv)) fun w2 hb2 k2 z2=>?_
  have hb2:Has w2 w1.heap.size (.cells (plcV (plcP q.g st off k)) 84 (0,0)):=hb2
  have k02:=k1.trans k2
  refine LdV_has (v:=.slice dp dl dc) (k02.has hb (by simp)) rfl (zC.2 ?_)
  refine LdV_has (v:=.int .i64 (plcP q.g st off k).dk) hb2 rfl (zA.2 ?_)
  obtain ⟨pk1,pk2⟩:=plcP_ok h.geo hst hof k
  have h2:=h.keep0 k02
  obtain ⟨bd,r,D,hbk,hD,hda,hdl⟩:=h2.get (i:=(plcP q.g st off k).dk.toNat) (by have:=h2.num;omega)
  have hDg:s.ds.getD (plcP q.g st off k).dk.toNat dsk0=D:=by rw [List.getD_eq_getElem?_getD,hD];rfl
  refine (hsl.keepB k02 (by simp)).ld0 (i:=(plcP q.g st off k).dk) (n:=1) (x:=bd) (v:=.pointer (some ⟨bd,0,none⟩)) rfl pk1.1 (by rw [List.getElem?_map,hbk];rfl) rfl (OpN_some.2 ?_)
  refine d_Alive hda (OpB_bool.2 ?_)
  have hpK:planK q.g s st off row k=if D.dead=true then none else some ⟨plcP q.g st off k,⟨row.getD k.toNat (sec []),sumS (plcP q.g st off k).at_ (row.getD k.toNat (sec []))⟩⟩:=by unfold planK;rw [hDg]
  refine Cb_of (fun hal=>?_) (fun hal=>?_)
  ·have hal:D.dead=false:=by simpa using hal
   rw [if_neg (by simp [hal])] at hpK
   obtain ⟨f,hf⟩:∃ f,row[k.toNat]? = some f:=⟨_,List.getElem?_eq_getElem (by omega)⟩
   have hfd:row.getD k.toNat (sec [])=f:=by rw [List.getD_eq_getElem?_getD,hf];rfl
   rw [hfd] at hpK
   generalize hpc:plcP q.g st off k=pc at *
   intro d
   have kd:=Keep.drew (fun _=>False) w2 d
   have k0d:=k02.trans kd
   have hb2d:=hb2.dr d
   have oad:=(oa.keep k2 (by simp)).keep kd (by simp)
   generalize w2.dr d=w3 at *
   refine ⟨fun w'=>Has w' w1.heap.size (.cells (plcV pc) 84 (0,0))∧SlL secLay w' p n row,⟨hb2d,s1.keepB k0d (by simp)⟩,?_⟩
   refine LdA_of (cs:=plcV pc) rfl (fun w' hw=>⟨_,_,_,hw.1,Nat.le_refl 2,rfl⟩) ?_
   refine LdV_of (v:=.int .i64 pc.at_) (fun w' hw=>⟨_,_,_,hw.1,rfl⟩) (zA.2 ?_)
   refine SlL.ldAS (S:=fun w'=>Has w' w1.heap.size (.cells (plcV pc) 84 (0,0))∧SlL secLay w' p n row) (w0:=w3) ⟨hb2d,s1.keepB k0d (by simp)⟩ (fun w' hw=>hw.2) (i:=k) (x:=f) (n:=16) rfl hkr.1 hf ?_
   have e16:(secLay.row f).toArray=secV f:=by show ((secV f).toList).toArray=secV f;simp
   rw [e16]
   refine s_Seal fun w4 k4=>OpA_agg.2 ⟨rfl,?_⟩
   have hS:∀ {w':World},Keep (fun _=>False) w3 w'→Has w' w1.heap.size (.cells (plcV pc) 84 (0,0))∧SlL secLay w' p n row:=fun k'=>⟨k'.has hb2d (by simp),s1.keepB (k0d.trans k') (by simp)⟩
   refine ⟨hS k4,?_⟩
   refine ⟨.agg (putSV ⟨pc,⟨f,sumS pc.at_ f⟩⟩),fun w' _=>bld_put ⟨pc,⟨f,sumS pc.at_ f⟩⟩ w',OpA_agg.2 ⟨rfl,?_⟩⟩
   refine ⟨_,_,bsl_pu1 _ w4,zC.2 ?_⟩
   have k5:=Keep.new (fun _=>False) w4 (.cells (putSV ⟨pc,⟨f,sumS pc.at_ f⟩⟩) 88)
   have hb5:=Has.new w4 (.cells (putSV ⟨pc,⟨f,sumS pc.at_ f⟩⟩) 88)
   generalize w4.alloc (.cells (putSV ⟨pc,⟨f,sumS pc.at_ f⟩⟩) 88)=w5 at *
   refine ⟨hS (k4.trans k5),?_⟩
   have oa5:=(oad.keep k4 (by simp)).keep k5 (by simp)
   have hla:=oa5.length
   have hlb:(planL q.g s st off row (ks.take j)).length≤100:=by
    refine Nat.le_trans (List.length_filterMap_le _ _) ?_
    rw [List.length_take];omega
   have k05:=(k0d.trans k4).trans k5
   have z5:=k05.size
   obtain ⟨p6',c6,w6,hr6,o6,k6,_⟩:=run_appendF1 puLayT oa5 (y:=⟨pc,⟨f,sumS pc.at_ f⟩⟩) hb5 rfl (ty:=75) (by omega) (by simp only [maxLen];omega) (by omega) (c2:=1)
   refine ⟨_,_,hr6,zC.2 ?_⟩
   have k06:Keep (fun _=>False) w w6:=k05.trans' k6 fun i hi e=>by have:=(oa5.lt e).1;omega
   have hb6:Has w6 w1.heap.size (.cells (plcV pc) 84 (0,0)):=k6.has ((k4.trans k5).has hb2d (by simp)) (OwnL.neH oa5 ((k4.trans k5).has hb2d (by simp)) (by decide))
   refine ⟨⟨hb6,s1.keepB k06 (by simp)⟩,?_⟩
   refine ⟨_,by show ((ks.length:Int)-IntKind.wrap .i64 ((j:Int)+1)).toNat<((ks.length:Int)-(j:Int)).toNat;rw [ek];omega,⟨j+1,ek,by omega,?_,k06⟩,rfl⟩
   rw [hpk,hpK]
   exact o6
  ·have hal:D.dead=true:=by simpa using hal
   rw [if_pos hal] at hpK
   refine ⟨_,by show ((ks.length:Int)-IntKind.wrap .i64 ((j:Int)+1)).toNat<((ks.length:Int)-(j:Int)).toNat;rw [ek];omega,⟨j+1,ek,by omega,?_,k02⟩,rfl⟩
   rw [hpk,hpK]
   show OwnL puLay w2 w.heap.size 88 pa la ca (planL q.g s st off row (ks.take j)++[])
   rw [List.append_nil]
   exact oa.keep k2 (by simp)
 ·have hc:j=ks.length:=by
   have:¬ (j:Int)<(ks.length:Int):=by simpa using hc
   omega
  subst hc
  rw [List.take_length] at oa
  have hla:=oa.length
  subst hla
  exact Ret_nil.2 (hK pa ca w1 oa k1)
end calls
def PlanMid (b b2:Nat) (p:Option Addr) (l c:Nat) (w:World) (R:Value→World→Prop):Prop :=
 LoopC (σ:=(Option Addr×Nat×Nat)×Int×Unit) (fun _ s1 w K1=>Cb (decide (s1.2.1<IntKind.wrap .i64 (((l:Nat) :
 Int)-2))) (IdxS p l s1.2.1 16 fun b5 o1=>Slc 16 16 none none none fun l2 h m=>DoV Tryz.prog (Instr.buildSlice 187 1 #[(0,.slice (slcP 1 l2 m (some ⟨b5,o1,none⟩))
 (h-l2) (m-l2))]) w fun v12 w=>OpS v12 fun p2 l3 c2=>DoV Tryz.prog (Builtin.append_ #[187,187] 187 #[.slice s1.1.1 s1.1.2.1 s1.1.2.2,.slice p2 l3 c2]) w fun v13 w
 => OpS v13 fun p3 l4 c3=>K1 ((p3,l4,c3),(IntKind.wrap .i64 (s1.2.1+1),())) w) (zB Tryz.prog 115 #[.slice s1.1.1 s1.1.2.1 s1.1.2.2] w fun v14 w=>T3 v14 fun v15
 v16 v17=>OpS v15 fun p4 l5 c4=>OpS v16 fun p5 l6 c5=>OpI .i64 v17 fun n6=>HeldR w fun S w=>SlArr p4 l5 16 fun b6 o2=>LdA 16 b6 o2 (At w) fun cs6=>SlArr p5 l6
 16 fun b7 o3=>LdA 16 b7 o3 (At w) fun cs7=>IdxS p l (IntKind.wrap .i64 (((l:Nat):Int)-2)) 16 fun b8 o4=>StA 16 b8 o4 cs6 w fun w=>Hld (S w) (IdxS p l
 (IntKind.wrap .i64 ((IntKind.wrap .i64 (((l:Nat):Int)-2))+1)) 16 fun b9 o5=>StA 16 b9 o5 cs7 w fun w=>Hld (S w) (LdA 3 b 0 (At w) fun cs8=>LdV b2 0 (At w)
 fun v18=>OpI .i64 v18 fun n7=>LdV b2 2 (At w) fun v19=>OpI .i64 v19 fun n8=>zB Tryz.prog 109 #[.agg cs8,.int .i64 n7,.int .i64 n8] w fun v20 w=>T2 v20 fun v21
 v22=>OpS v21 fun p6 l7 c6=>OpI .i64 v22 fun n9=>LdV b2 1 (At w) fun v23=>OpI .i64 v23 fun n10=>DoV Tryz.prog (Instr.buildSlice 69 3 #[(0,.int .i64 n10),(1,.int
 .i64 (IntKind.wrap .i64 (((l:Nat):Int)-2))),(2,.int .i64 (IntKind.wrap .i64 ((IntKind.wrap .i64 (((l:Nat):Int)-2))+1)))]) w fun v24 w=>OpS v24 fun p7 l8
 c7=>PlanEnd b b2 p l p6 l7 p7 l8 w R)))) ((none,0,0),(0,())) w
section calls
variable {w:World} {q:SB} {s:SS} {R:Value→World→Prop}
theorem planMid (h:SetAt w q s) {b b2:Nat} {dp:Option Addr} {dl dc:Nat} (hsl:SlL dLay w dp dl (q.bks.map Prod.fst)) {p:Option Addr} {base n c:Nat} {row:List Sec} {x:Int×Int×Int} (hst:0≤x.1∧x.1<q.g.s) (hof:0≤x.2.2∧x.2.2<q.g.c) (hco:0≤x.2.1∧x.2.1<q.g.d-2) (hn:q.g.d.toNat=n)
  (hb:Has w b (.cells (setV q.g dp dl dc) 51 (0,0))) (hb2:Has w b2 (.cells (spotV x) 177 (0,0))) (o1:OwnL secLay w base 37 p n c row) (hrok:∀ f∈row,SecOk f) (hbase:base≤w.heap.size) (hsl':∀ w',Keep (fun k=>p=some ⟨k,0,none⟩) w w'→SlL dLay w' dp dl (q.bks.map Prod.fst))
  (hK:∀ p' c' w',OwnL puLay w' base 88 p' (planL q.g s x.1 x.2.2 (row.take (n-2)++[sumP ((row.take (n-2)).map some),sumQ ((row.take (n-2)).map some)]) [x.2.1,q.g.d-2,q.g.d-1]).length c' (planL q.g s x.1 x.2.2 (row.take (n-2)++[sumP ((row.take (n-2)).map some),sumQ ((row.take (n-2)).map some)]) [x.2.1,q.g.d-2,q.g.d-1])→Keep (fun k=>p=some ⟨k,0,none⟩) w w'→R (.tuple #[.slice p' (planL q.g s x.1 x.2.2 (row.take (n-2)++[sumP ((row.take (n-2)).map some),sumQ ((row.take (n-2)).map some)]) [x.2.1,q.g.d-2,q.g.d-1]).length c',.int .i64 0]) w'):PlanMid b b2 p n c w R:=by
 unfold PlanMid
 have hgd:=h.geo.d
 have hrl:=o1.length
 have e2:IntKind.wrap .i64 (((n:Nat):Int)-2)=((n-2:Nat):Int):=by rw [wrapI (by omega) (by omega)];omega
 have e1:IntKind.wrap .i64 (((n-2:Nat):Int)+1)=((n-1:Nat):Int):=by rw [wrapI (by omega) (by omega)];omega
 rw [e2,e1]
 obtain ⟨bc,cur,hp,hbc,hhas,_⟩:=o1.cells (by omega)
 subst hp
 refine LoopC_of (σ:=(Option Addr×Nat×Nat)×Int×Unit) (fun st' w'=>∃ k:Nat,st'.2.1=(k:Int)∧k≤n-2∧st'.1.2.1=k∧OwnL hLay w' w.heap.size 22 st'.1.1 k st'.1.2.2 (hdrs bc k)∧Keep (fun _=>False) w w') (fun st' _=>((n-2:Nat)-st'.2.1).toNat)
  ⟨0,rfl,by omega,rfl,OwnL.nil,Keep.refl _ _⟩ ?_
 rintro _ ⟨⟨pa,la,ca⟩,i,u⟩ w1 ⟨k,hi,hk,hlk,oa,k1⟩
 simp only at hi hlk oa ⊢
 subst hi hlk
 have z1:=k1.size
 refine Cb_of (fun hc=>?_) (fun hc=>?_)
 ·have hc:la<n-2:=by
   have:(la:Int)<((n-2:Nat):Int):=by simpa using hc
   omega
  have ek:IntKind.wrap .i64 ((la:Int)+1)=((la+1:Nat):Int):=by rw [wrapI (by omega) (by omega)];omega
  refine ⟨bc,0,rfl,by omega,by omega,?_⟩
  refine Slc_all (by omega) ?_
  rw [slc16,Int.toNat_natCast]
  refine ⟨_,_,bsl_h1 _ _ _ w1,zC.2 ?_⟩
  have k2:=Keep.new (fun _=>False) w1 (.cells #[.slice (some ⟨bc,0+la*16,none⟩) (16-0) (16-0)] 22)
  have hb2:=Has.new w1 (.cells #[.slice (some ⟨bc,0+la*16,none⟩) (16-0) (16-0)] 22)
  generalize w1.alloc (.cells #[.slice (some ⟨bc,0+la*16,none⟩) (16-0) (16-0)] 22)=w2 at *
  have z2:=k2.size
  obtain ⟨p3,c3,w3,hr3,o3,k3,_⟩:=run_appendF1 hLayT (oa.keep k2 (by simp)) (y:=(some ⟨bc,0+la*16,none⟩,16,16)) hb2 rfl (ty:=187) (by omega) (by simp only [maxLen];omega) (by omega) (c2:=1)
  refine ⟨_,_,hr3,zC.2 ?_⟩
  refine ⟨_,by show (((n-2:Nat):Int)-IntKind.wrap .i64 ((la:Int)+1)).toNat<(((n-2:Nat):Int)-(la:Int)).toNat;rw [ek];omega,⟨la+1,ek,by omega,rfl,by rw [hdrs_succ];exact o3,(k1.trans k2).trans' k3 fun i hi e=>by have:=(oa.lt e).1;omega⟩,rfl⟩
 ·have hc:la=n-2:=by
   have:¬ (la:Int)<((n-2:Nat):Int):=by simpa using hc
   omega
  subst hc
  have o11:=o1.keep k1 (by simp)
  have hcols:Cols w1 pa (n-2) (hdrs bc (n-2)) ((row.take (n-2)).map some):=by
   refine ⟨oa.sl,by rw [len_hdrs,List.length_map,List.length_take];omega,fun i h C h1 h2=>?_,map_some_ok fun f hf=>hrok f (List.mem_of_mem_take hf)⟩
   have hi:i<n-2:=by have:=(List.getElem?_eq_some_iff.1 h1).1;rwa [len_hdrs] at this
   unfold hdrs at h1
   rw [List.getElem?_map,List.getElem?_range hi] at h1
   cases h1
   rw [List.getElem?_map,List.getElem?_take,if_pos hi] at h2
   obtain ⟨f,hf⟩:∃ f,row[i]? = some f:=⟨_,List.getElem?_eq_getElem (by omega)⟩
   rw [hf] at h2
   cases h2
   exact sec_col o11.sl hf
  refine p_Encode hcols (by omega) (by omega) (lost_some _) fun bp bq w2 hne hbp hbq op oq k2=>?_
  refine ⟨_,_,_,rfl,zC.2 (zC.2 (zA.2 ?_))⟩
  generalize sumP ((row.take (n-2)).map some)=P at *
  generalize sumQ ((row.take (n-2)).map some)=Q at *
  intro d
  have kd:=Keep.drew (fun _=>False) w2 d
  refine ⟨fun _=>True,trivial,?_⟩
  have k02:=(k1.trans k2).trans kd
  have o12:=o1.keep k02 (by simp)
  have opd:=op.keep kd (by simp)
  have oqd:=oq.keep kd (by simp)
  have hbd:=k02.has hb (by simp)
  have hb2d:=k02.has hb2 (by simp)
  generalize w2.dr d=w3 at *
  refine ldSec opd.sl ⟨_,_,rfl⟩ ?_
  refine ldSec oqd.sl ⟨_,_,rfl⟩ ?_
  refine o12.stA (i:=((n-2:Nat):Int)) (n:=16) rfl (by omega) (by omega) P (by show secV P=((secV P).toList).toArray;simp) fun w4 o4 k4 z4=>⟨trivial,?_⟩
  refine o4.stA (i:=((n-1:Nat):Int)) (n:=16) rfl (by omega) (by omega) Q (by show secV Q=((secV Q).toList).toArray;simp) fun w5 o5 k5 z5=>⟨trivial,?_⟩
  rw [Int.toNat_natCast,Int.toNat_natCast,set_two hrl.symm (by omega)] at o5
  have k35:=k4.trans k5
  have hb3:=k35.has hbd (OwnL.neH o12 hbd (by decide))
  have hb23:=k35.has hb2d (OwnL.neH o12 hb2d (by decide))
  have k05:Keep (fun k=>(some (⟨bc,0,none⟩:Addr))=some ⟨k,0,none⟩) w w5:=(k02.mono fun _ h=>h.elim).trans k35
  have hsf:∀ i,SFoot q i→¬ (some (⟨bc,0,none⟩:Addr))=some ⟨i,0,none⟩:=by
   intro i hi e
   cases e
   exact h.typ hhas (by decide) (by decide) (by decide) hi
  have h5:=h.keep k05 hsf
  refine LdA_has (cs:=geoV q.g) hb3 (by show 0+3≤4;decide) rfl ?_
  refine LdV_has (v:=.int .i64 x.1) hb23 rfl (zA.2 ?_)
  refine LdV_has (v:=.int .i64 x.2.2) hb23 rfl (zA.2 ?_)
  refine l_Row h.geo hst hof fun p6 c6 w6 o6 k6=>?_
  refine T2_mk.2 (zC.2 (zA.2 ?_))
  have hb26:=k6.has hb23 (by simp)
  refine LdV_has (v:=.int .i64 x.2.1) hb26 rfl (zA.2 ?_)
  refine ⟨_,_,bsl_n3 _ _ _ w6,zC.2 ?_⟩
  have k7:=Keep.new (fun _=>False) w6 (.cells #[.int .i64 x.2.1,.int .i64 ((n-2:Nat):Int),.int .i64 ((n-1:Nat):Int)] 3)
  have hb7:=Has.new w6 (.cells #[.int .i64 x.2.1,.int .i64 ((n-2:Nat):Int),.int .i64 ((n-1:Nat):Int)] 3)
  generalize hw7:w6.alloc (.cells #[.int .i64 x.2.1,.int .i64 ((n-2:Nat):Int),.int .i64 ((n-1:Nat):Int)] 3)=w7 at *
  have o7:OwnL nLay w7 0 3 (some ⟨w6.heap.size,0,none⟩) 3 3 [x.2.1,((n-2:Nat):Int),((n-1:Nat):Int)]:=OwnL.mk (xs:=[x.2.1,((n-2:Nat):Int),((n-1:Nat):Int)]) (Nat.zero_le _) hb7 (by simp [maxLen]) rfl
  have k57:=k6.trans k7
  have k07:Keep (fun k=>(some (⟨bc,0,none⟩:Addr))=some ⟨k,0,none⟩) w w7:=k05.trans (k57.mono fun _ h=>h.elim)
  rw [hn] at o6 ⊢
  have hks:[x.2.1,q.g.d-2,q.g.d-1]=[x.2.1,((n-2:Nat):Int),((n-1:Nat):Int)]:=by
   rw [show ((n-2:Nat):Int)=q.g.d-2 by omega,show ((n-1:Nat):Int)=q.g.d-1 by omega]
  rw [hks] at hK
  have z7:=k07.size
  refine planEnd (h.keep k07 hsf) (hsl' w7 k07) hst hof hn (k57.has hb3 (by simp)) ((o5.rebase (Nat.zero_le _)).keep k57 (by simp)) ((o6.rebase (Nat.zero_le _)).keep k7 (by simp)) o7 ?_ (by simp) fun p' c' w8 o8 k8=>?_
  ·intro k hk
   simp only [List.mem_cons,List.not_mem_nil,or_false] at hk
   rcases hk with rfl | rfl | rfl
   ·omega
   ·omega
   ·omega
  ·exact hK p' c' w8 (o8.rebase (by omega)) (k07.trans (k8.mono fun _ h=>h.elim))
theorem st_Plan (h:SetAt w q s) {p:Option Addr} {l c:Nat} (hsl:SlL dLay w p l (q.bks.map Prod.fst)) (hlc:l≤c) (hok:∀ D∈s.ds,DskOk D) {lba:Int} (h0:0≤lba) (h1:lba<(q.g.d-2)*q.g.c*q.g.s) {data:Sec} (hdata:SecOk data)
  (hK:∀ p' c' w',OwnL puLay w' w.heap.size 88 p' (planS q.g s lba data).1.length c' (planS q.g s lba data).1→Keep (fun _=>False) w w'→R (.tuple #[.slice p' (planS q.g s lba data).1.length c',.int .i64 (planS q.g s lba data).2]) w'):zB Tryz.prog 35 #[.agg (setV q.g p l c),.int .i64 lba,.agg (secV data)] w R:=by
 apply C_stripe_Plan
 unfold F_stripe_Plan
 obtain ⟨pst,pco,pof⟩:=spotP_ok h.geo h0 h1
 have hgd:=h.geo.d
 unfold planS at hK
 generalize hx:spotP q.g lba=x at *
 simp only at hK
 refine alc_fresh fun w1 hb1 k1 z1=>?_
 refine alc_fresh fun w2 hb2 k2 z2=>?_
 have hs2:=k2.has hb1 (by simp)
 have k02:=k1.trans k2
 refine LdA_all hs2 rfl ?_
 refine st_Check (h.keep0 k02) (hsl.keepB k02 (by simp)) hlc fun w3 k3=>?_
 refine zA.2 ((Cb_false (p:=_)).2 ?_)
 refine LdA_has (cs:=geoV q.g) (k3.has hs2 (by simp)) (by show 0+3≤4;decide) rfl ?_
 refine l_Map h.geo h0 h1 fun w4 k4=>?_
 rw [hx]
 refine ⟨_,_,_,rfl,OpA_agg.2 ⟨rfl,OpA_agg.2 ⟨rfl,zA.2 ?_⟩⟩⟩
 refine alc_fresh fun w5 hb5 k5 z5=>?_
 refine alc_fresh fun w6 hb6 k6 z6=>?_
 have hb56:=k6.has hb5 (by simp)
 have k26:=((k3.trans k4).trans k5).trans k6
 have z26:w2.heap.size≤w4.heap.size:=(k3.trans k4).size
 have z02:=k02.size
 refine StA_all hb56 rfl (by rw [zc_spot];rfl) (one_spotV x) ?_
 have hb7:=hb56.upd_same (.cells (spotV x) 177 (0,0))
 have hb6':Has (w6.upd w4.heap.size (.cells (spotV x) 177 (0,0))) w5.heap.size (.cells (zc Tryz.prog 84) 84 (0,0)):=Has.upd hb6 (by omega)
 have k27:Keep (fun _=>False) w2 (w6.upd w4.heap.size (.cells (spotV x) 177 (0,0))):=(Keep.refl (fun _=>False) w2).trans' ((k26.mono fun _ h=>h.elim).upd (S:=fun k=>k=w4.heap.size) (fun _=>rfl) _) fun i hi e=>by omega
 refine StA_all hb6' rfl (by rw [zc_plc];rfl) (one_plcV _) ?_
 have hb78:Has ((w6.upd w4.heap.size (.cells (spotV x) 177 (0,0))).upd w5.heap.size (.cells (plcV (plcP q.g x.1 x.2.2 x.2.1)) 84 (0,0))) w4.heap.size (.cells (spotV x) 177 (0,0)):=Has.upd hb7 (by omega)
 have k28:Keep (fun _=>False) w2 ((w6.upd w4.heap.size (.cells (spotV x) 177 (0,0))).upd w5.heap.size (.cells (plcV (plcP q.g x.1 x.2.2 x.2.1)) 84 (0,0))):=(Keep.refl (fun _=>False) w2).trans' ((k27.mono fun _ h=>h.elim).upd (S:=fun k=>k=w5.heap.size) (fun _=>rfl) _) fun i hi e=>by omega
 generalize (w6.upd w4.heap.size (.cells (spotV x) 177 (0,0))).upd w5.heap.size (.cells (plcV (plcP q.g x.1 x.2.2 x.2.1)) 84 (0,0))=w8 at *
 have k08:=k02.trans k28
 have hs8:=k28.has hs2 (by simp)
 have hr8:=k28.has hb2 (by simp)
 have hbr:w.heap.size≤w1.heap.size:=by omega
 generalize w1.heap.size=br at *
 generalize w4.heap.size=bs at *
 refine (Cb_false (p:=_)).2 ?_
 refine LdA_all hs8 rfl ?_
 refine LdV_has (v:=.int .i64 x.1) hb78 rfl (zA.2 ?_)
 refine LdV_has (v:=.int .i64 x.2.2) hb78 rfl (zA.2 ?_)
 refine st_Row (h.keep0 k08) (hsl.keepB k08 (by simp)) hlc hok pst pof ?_ ?_ ?_
 ·intro hp w9 k9
  rw [if_pos hp] at hK
  exact ⟨_,_,_,rfl,zC.2 (zC.2 (zA.2 ((Cb_true (q:=_)).2 (Ret_nil.2 (hK none 0 w9 OwnL.nil (k08.trans k9))))))⟩
 ·intro hp hl w9 k9
  rw [if_neg (by simp [hp]),if_neg hl] at hK
  exact ⟨_,_,_,rfl,zC.2 (zC.2 (zA.2 ((Cb_true (q:=_)).2 (Ret_nil.2 (hK none 0 w9 OwnL.nil (k08.trans k9))))))⟩
 ·intro hp hl p' c' lp ll lc w9 o9 on9 k9
  rw [if_neg (by simp [hp]),if_pos hl] at hK
  refine ⟨_,_,_,rfl,zC.2 (zC.2 (zA.2 ((Cb_false (p:=_)).2 ?_)))⟩
  have k09:=k08.trans k9
  have z9:=k09.size
  refine LdV_has (v:=.int .i64 x.2.1) (k9.has hb78 (by simp)) rfl (zA.2 ?_)
  refine LdA_all (k9.has hr8 (by simp)) rfl ?_
  have o9:=o9.rebase (show w.heap.size≤w8.heap.size from k08.size)
  have hlen:(rowR (colsS q.g s x.1 x.2.2)).length=q.g.d.toNat:=by rw [len_rowR (by rw [len_colsS];omega),len_colsS]
  have hrok:=rowR_ok (colsS_ok (g:=q.g) (st:=x.1) (off:=x.2.2) hok)
  generalize rowR (colsS q.g s x.1 x.2.2)=row at *
  refine o9.stA (i:=x.2.1) (n:=16) rfl pco.1 (by omega) data (by show secV data=((secV data).toList).toArray;simp) fun w10 o10 k10 z10=>?_
  have ks9:=k9.has hs8 (by simp)
  have kt9:=k9.has hb78 (by simp)
  have k010:Keep (fun _=>False) w w10:=k09.trans' k10 fun i hi e=>by have:=(o9.lt e).1;omega
  have z10':=k010.size
  have hrow:rowW row x.2.1.toNat data=(row.set x.2.1.toNat data).take (q.g.d.toNat-2)++[sumP (((row.set x.2.1.toNat data).take (q.g.d.toNat-2)).map some),sumQ (((row.set x.2.1.toNat data).take (q.g.d.toNat-2)).map some)]:=by unfold rowW;rw [hlen]
  rw [hrow] at hK
  refine planMid (base:=w.heap.size) (h.keep0 k010) (hsl.keepB k010 (by simp)) pst pof pco rfl (k10.has ks9 (OwnL.neH o9 ks9 (by decide))) (k10.has kt9 (OwnL.neH o9 kt9 (by decide))) o10 (fun f hf=>?_) (by omega) (fun w' k'=>?_) fun p3 c3 w11 o11 k11=>?_
  ·rcases mem_set hf with rfl | hf
   ·exact hdata
   ·exact hrok f hf
  ·exact hsl.keepB (k010.trans' k' fun i hi e=>by have:=(o10.lt e).1;omega) (by simp)
  ·exact hK p3 c3 w11 o11 (k010.trans' k11 fun i hi e=>by have:=(o10.lt e).1;omega)
end calls
def keyL (k:Int) (l:List Dsk):Int:=l.foldl (fun k D=>if D.dead=true then k else max k D.key) k
def keyS (s:SS):Int:=keyL 0 s.ds
def fenceS (s:SS) (ep:Int):Int×SS :=
 if s.pw.on=false then (4,s) else (0,⟨s.ds.map fun D=>(fenceD s.pw D ep).2,s.pw⟩)
theorem fenceD_len (pw:Pow) (D:Dsk) (ep:Int):(fenceD pw D ep).2.secs=D.secs:=by
 unfold fenceD
 split
 ·rfl
 ·split <;> rfl
theorem max_rng {a b:Int} (h1:0≤a∧a≤4294967295) (h2:0≤b∧b≤4294967295):0≤max a b∧max a b≤4294967295:=by omega
theorem fenceD_ok {pw:Pow} {D:Dsk} {ep:Int} (h:DskOk D) (hep:0≤ep∧ep≤4294967295):DskOk (fenceD pw D ep).2:=by
 refine ⟨by rw [fenceD_len];exact h.1,?_⟩
 unfold fenceD
 split
 ·exact h.2
 ·split
  ·exact h.2
  ·exact max_rng h.2 hep
section calls
variable {w:World} {q:SB} {s:SS} {R:Value→World→Prop}
theorem st_Key (h:SetAt w q s) {p:Option Addr} {l c:Nat} (hsl:SlL dLay w p l (q.bks.map Prod.fst)) (hlc:l≤c)
  (hK:∀ w',Keep (fun _=>False) w w'→R (.int .u32 (keyS s)) w'):zB Tryz.prog 42 #[.agg (setV q.g p l c)] w R:=by
 apply C_stripe_Key
 unfold F_stripe_Key
 have hll:l=s.ds.length:=by have:=hsl.1;rw [List.length_map,h.len] at this;exact this
 have hgd:=h.geo.d
 have hnum:=h.num
 refine alc_fresh fun w1 hb1 k1 z1=>?_
 refine LdA_all hb1 rfl ?_
 refine st_Check (h.keep0 k1) (hsl.keepB k1 (by simp)) hlc fun w2 k2=>?_
 refine zA.2 ((Cb_false (p:=_)).2 ?_)
 have k02:=k1.trans k2
 refine LdV_has (v:=.slice p l c) (k2.has hb1 (by simp)) rfl (zC.2 ?_)
 refine LoopC_of (σ:=Int×Int×Unit) (fun st w'=>∃ i:Nat,st.2.1=(i:Int)∧i≤l∧st.1=keyL 0 (s.ds.take i)∧Keep (fun _=>False) w w') (fun st _=>(l-st.2.1).toNat) ⟨0,rfl,by omega,rfl,k02⟩ ?_
 rintro _ ⟨m,i,u⟩ w3 ⟨i',hi,hil,hm,k3⟩
 simp only at hi hm ⊢
 subst hi hm
 have h3:=h.keep0 k3
 refine Cb_of (fun hc=>?_) (fun hc=>?_)
 ·have hc:i'<l:=by
   have:(i':Int)<(l:Int):=by simpa using hc
   omega
  have ek:IntKind.wrap .i64 ((i':Int)+1)=((i'+1:Nat):Int):=by rw [wrapI (by omega) (by omega)];omega
  obtain ⟨b,r,D,hbk,hD,hda,hdl⟩:=h3.get (i:=i') (by omega)
  refine (hsl.keepB k3 (by simp)).ld0 (i:=(i':Int)) (n:=1) (x:=b) (v:=.pointer (some ⟨b,0,none⟩)) rfl (by omega) (by rw [Int.toNat_natCast,List.getElem?_map,hbk];rfl) rfl (OpN_some.2 ?_)
  have hst:keyL 0 (s.ds.take (i'+1))=if D.dead=true then keyL 0 (s.ds.take i') else max (keyL 0 (s.ds.take i')) D.key:=by
   unfold keyL
   rw [List.take_add_one,hD,List.foldl_append];rfl
  refine d_Alive hda (OpB_bool.2 ?_)
  refine Cb_of (fun hal=>?_) (fun hal=>?_)
  ·have hal:D.dead=false:=by simpa using hal
   rw [if_neg (by simp [hal])] at hst
   refine d_Key hda (zA.2 ?_)
   refine DoQ_of (v:=.int .u32 (max (keyL 0 (s.ds.take i')) D.key)) (fun d=>run_max _ _ _ _ _ _) (zA.2 ?_)
   exact ⟨_,by show ((l:Int)-IntKind.wrap .i64 ((i':Int)+1)).toNat<((l:Int)-(i':Int)).toNat;rw [ek];omega,⟨i'+1,ek,by omega,hst.symm,k3⟩,rfl⟩
  ·have hal:D.dead=true:=by simpa using hal
   rw [if_pos hal] at hst
   exact ⟨_,by show ((l:Int)-IntKind.wrap .i64 ((i':Int)+1)).toNat<((l:Int)-(i':Int)).toNat;rw [ek];omega,⟨i'+1,ek,by omega,hst.symm,k3⟩,rfl⟩
 ·have hc:i'=l:=by
   have:¬ (i':Int)<(l:Int):=by simpa using hc
   omega
  rw [List.take_of_length_le (by omega)]
  exact Ret_nil.2 (hK w3 k3)
theorem st_Fence (h:SetAt w q s) {p:Option Addr} {l c:Nat} (hsl:SlL dLay w p l (q.bks.map Prod.fst)) (hlc:l≤c) (hpf:∀ b o,p=some ⟨b,o,none⟩→¬ SFoot q b) (hok:∀ D∈s.ds,DskOk D) {ep:Int} (hep:0≤ep∧ep≤4294967295)
  (hK:∀ w',SetAt w' q (fenceS s ep).2→Keep (SFoot q) w w'→R (.int .i64 (fenceS s ep).1) w'):zB Tryz.prog 40 #[.agg (setV q.g p l c),.int .u32 ep] w R:=by
 apply C_stripe_Fence
 unfold F_stripe_Fence
 have hll:l=s.ds.length:=by have:=hsl.1;rw [List.length_map,h.len] at this;exact this
 have hgd:=h.geo.d
 have hnum:=h.num
 refine alc_fresh fun w1 hb1 k1 z1=>?_
 refine LdA_all hb1 rfl ?_
 refine st_Check (h.keep0 k1) (hsl.keepB k1 (by simp)) hlc fun w2 k2=>?_
 refine zA.2 ((Cb_false (p:=_)).2 ?_)
 have k02:=k1.trans k2
 refine LdV_has (v:=.slice p l c) (k2.has hb1 (by simp)) rfl (zC.2 ?_)
 unfold fenceS at hK
 refine LoopC_of (σ:=Int×Unit) (fun st w'=>∃ i:Nat,st.1=(i:Int)∧i≤l∧(0<i→s.pw.on=true)∧SetAt w' q ⟨(s.ds.take i).map (fun D=>(fenceD s.pw D ep).2)++s.ds.drop i,s.pw⟩∧Keep (SFoot q) w w') (fun st _=>(l-st.1).toNat) ⟨0,rfl,by omega,fun h=>absurd h (by omega),h.keep0 k02,k02.mono fun _ h=>h.elim⟩ ?_
 rintro _ ⟨i,u⟩ w3 ⟨i',hi,hil,hon,h3,k3⟩
 simp only at hi ⊢
 subst hi
 refine Cb_of (fun hc=>?_) (fun hc=>?_)
 ·have hc:i'<l:=by
   have:(i':Int)<(l:Int):=by simpa using hc
   omega
  have ek:IntKind.wrap .i64 ((i':Int)+1)=((i'+1:Nat):Int):=by rw [wrapI (by omega) (by omega)];omega
  have hlm:((s.ds.take i').map (fun D=>(fenceD s.pw D ep).2)).length=i':=by rw [List.length_map,List.length_take];omega
  obtain ⟨b,r,D,hbk,hD,hda,hdl⟩:=h3.get (i:=i') (by show i'<((s.ds.take i').map (fun D=>(fenceD s.pw D ep).2)++s.ds.drop i').length;rw [List.length_append,hlm,List.length_drop];omega)
  have hD:((s.ds.take i').map (fun D=>(fenceD s.pw D ep).2)++s.ds.drop i')[i']? = some D:=hD
  rw [List.getElem?_append_right (by omega),hlm,Nat.sub_self,List.getElem?_drop,Nat.add_zero] at hD
  have hDok:=hok D (List.mem_of_getElem? hD)
  refine (hsl.keep k3 hpf).ld0 (i:=(i':Int)) (n:=1) (x:=b) (v:=.pointer (some ⟨b,0,none⟩)) rfl (by omega) (by rw [Int.toNat_natCast,List.getElem?_map,hbk];rfl) rfl (OpN_some.2 ?_)
  have hdo:=d_Fence (R:=fun v w'=>v=.int .i64 (fenceD s.pw D ep).1∧DiskAt w' q.m b r (fenceD s.pw D ep).2∧Keep (fun k=>k=b) w3 w') hda h3.main hDok.2 hep (fun w4 hd4 k4=>⟨rfl,hd4,k4⟩)
  refine hdo.mono fun v w4 hv=>?_
  obtain ⟨rfl,hd4,k4⟩:=hv
  refine zA.2 ?_
  have hbm:b≠q.m:=(hda.nem h3.main).1
  have kf:Keep (SFoot q) w3 w4:=k4.mono fun k hk=>Or.inr (Or.inl (by rw [hk];exact List.mem_map.2 ⟨(b,r),List.mem_of_getElem? hbk,rfl⟩))
  have hm4:MaAt w4 q.m s.pw:=k4.has h3.main (fun e=>hbm e.symm)
  have h4:=h3.upd hbk (k4.mono fun k hk=>Or.inr (Or.inl hk)) hd4 (by rw [fenceD_len];exact hdl) hm4
  by_cases hp:s.pw.on=false
  ·have e4:(fenceD s.pw D ep).1=4:=by unfold fenceD;rw [if_pos hp]
   have e5:(fenceD s.pw D ep).2=D:=by unfold fenceD;rw [if_pos hp]
   rw [e4]
   rw [if_pos hp] at hK
   refine (Cb_true (q:=_)).2 (Ret_nil.2 (hK w4 ?_ (k3.trans kf)))
   have h0:i'=0:=by
    refine Classical.byContradiction fun hne=>?_
    have:=hon (by omega)
    rw [hp] at this
    cases this
   subst h0
   have:SS.mk (((s.ds.take 0).map (fun D=>(fenceD s.pw D ep).2)++s.ds.drop 0).set 0 (fenceD s.pw D ep).2) s.pw=s:=by
    rw [e5,List.take_zero,List.map_nil,List.nil_append,List.drop_zero]
    have:s.ds.set 0 D=s.ds:=by
     apply List.ext_getElem?
     intro i
     by_cases h:0=i
     ·subst h;rw [List.getElem?_set_self (by omega),hD]
     ·rw [List.getElem?_set_ne h]
    rw [this]
   rw [this] at h4
   exact h4
  ·have e4:((fenceD s.pw D ep).1==4)=false:=by
    unfold fenceD
    rw [if_neg hp]
    split <;> rfl
   rw [e4]
   refine (Cb_false (p:=_)).2 ?_
   refine ⟨_,by show ((l:Int)-IntKind.wrap .i64 ((i':Int)+1)).toNat<((l:Int)-(i':Int)).toNat;rw [ek];omega,⟨i'+1,ek,by omega,fun _=>by simpa using hp,?_,k3.trans kf⟩,rfl⟩
   have:((s.ds.take i').map (fun D=>(fenceD s.pw D ep).2)++s.ds.drop i').set i' (fenceD s.pw D ep).2=(s.ds.take (i'+1)).map (fun D=>(fenceD s.pw D ep).2)++s.ds.drop (i'+1):=by
    rw [List.set_append_right _ _ (by omega),hlm,Nat.sub_self,List.drop_eq_getElem_cons (by omega),List.set_cons_zero,List.take_add_one,hD,List.map_append,List.append_assoc]
    rfl
   rw [← this]
   exact h4
 ·have hc:i'=l:=by
   have:¬ (i':Int)<(l:Int):=by simpa using hc
   omega
  have hp:=hon (by omega)
  rw [if_neg (by simp [hp])] at hK
  rw [List.take_of_length_le (by omega),List.drop_of_length_le (by omega),List.append_nil] at h3
  exact Ret_nil.2 (hK w3 h3 k3)
end calls
theorem sumI_at (co:Nat→Nat) (Cs:List (Option Sec)) (k:Nat):sumI co Cs (k+1)=xaddO (co k) (sumI co Cs k) (Cs.getD k none):=rfl
theorem getD_set_self {α:Type} {l:List α} {i:Nat} (h:i<l.length) (a d:α):(l.set i a).getD i d=a:=by
 rw [List.getD_eq_getElem?_getD,List.getElem?_set_self h];rfl
theorem getD_set_ne {α:Type} {l:List α} {i j:Nat} (h:i≠j) (a d:α):(l.set i a).getD j d=l.getD j d:=by
 rw [List.getD_eq_getElem?_getD,List.getElem?_set_ne h,List.getD_eq_getElem?_getD]
theorem xadd_nat {g:Nat} {f y:Sec} (k:Fin 16):(xadd g f y k).toNat=(f k).toNat ^^^ gmN g (y k).toNat:=by unfold xadd;omega
theorem sumI_set {co:Nat→Nat} {D:List (Option Sec)} {i:Nat} {x:Sec} (hi:i<D.length) (hn:D[i]? = some none) (b:Fin 16):∀ k,(sumI co (D.set i (some x)) k b).toNat=if i<k then (sumI co D k b).toNat ^^^ gmN (co i) (x b).toNat else (sumI co D k b).toNat
 | 0=>by rw [if_neg (by omega)];rfl
 | k+1=>by
  have ih:=sumI_set (co:=co) (x:=x) hi hn b k
  rw [sumI_at,sumI_at]
  by_cases hk:i=k
  ·subst hk
   have e:D.getD i none=none:=by rw [List.getD_eq_getElem?_getD,hn];rfl
   rw [getD_set_self hi,e,if_pos (by omega)]
   show (xadd (co i) _ x b).toNat=(sumI co D i b).toNat ^^^ _
   rw [xadd_nat,ih,if_neg (by omega)]
  ·rw [getD_set_ne hk]
   cases hC:D.getD k none with
   | none =>
    show (sumI co (D.set i (some x)) k b).toNat=if i<k+1 then (sumI co D k b).toNat ^^^ _ else (sumI co D k b).toNat
    rw [ih]
    by_cases h:i<k
    ·rw [if_pos h,if_pos (by omega)]
    ·rw [if_neg h,if_neg (by omega)]
   | some y =>
    show (xadd (co k) _ y b).toNat=if i<k+1 then (xadd (co k) _ y b).toNat ^^^ _ else (xadd (co k) _ y b).toNat
    rw [xadd_nat,xadd_nat,ih]
    by_cases h:i<k
    ·rw [if_pos h,if_pos (by omega),Nat.xor_assoc,Nat.xor_assoc,Nat.xor_comm (gmN (co i) _)]
    ·rw [if_neg h,if_neg (by omega)]
theorem sumI_one {co:Nat→Nat} {D:List (Option Sec)} {i:Nat} {x:Sec} (hi:i<D.length) (hn:D[i]? = some none) (b:Fin 16):(sumI co (D.set i (some x)) (D.set i (some x)).length b).toNat=(sumI co D D.length b).toNat ^^^ gmN (co i) (x b).toNat:=by
 rw [List.length_set,sumI_set hi hn,if_pos hi]
structure TrueRow (T:List Sec) (D:List (Option Sec)) (P Q:Option Sec):Prop where
 len:T.length=D.length
 dat:∀ (k:Nat) f,D[k]? = some (some f)→T[k]? = some f
 ok:∀ f∈T,SecOk f
 p:∀ f,P=some f→f=sumP (T.map some)
 q:∀ f,Q=some f→f=sumQ (T.map some)
theorem sec_ext {f g:Sec} (hf:SecOk f) (hg:SecOk g) (h:∀ b,(f b).toNat=(g b).toNat):f=g:=by
 funext b
 have h1:=nat_of (hf b)
 have h2:=nat_of (hg b)
 have:=h b
 omega
theorem lost_zero {D:List (Option Sec)} (h:goneL D=[]):∀ C∈D,∃ f,C=some f:=by
 intro C hC
 cases C with
 | some f=>exact ⟨f,rfl⟩
 | none =>
  obtain ⟨n,hn⟩:=List.getElem?_of_mem hC
  have:=gone_mem hn
  rw [h] at this
  cases this
theorem TrueRow.map {T:List Sec} {D Z:List (Option Sec)} {P Q:Option Sec} (h:TrueRow T D P Q) (hl:Z.length=D.length) (hZ:∀ (k:Nat) C,Z[k]? = some C→(∃ f,C=some f∧D[k]? = some (some f))∨C=T[k]?):T.map some=Z:=by
 apply List.ext_getElem?
 intro k
 rw [List.getElem?_map]
 by_cases hk:k<Z.length
 ·obtain ⟨C,hC⟩:∃ C,Z[k]? = some C:=⟨_,List.getElem?_eq_getElem hk⟩
  obtain ⟨t,hT⟩:∃ t,T[k]? = some t:=⟨_,List.getElem?_eq_getElem (by rw [h.len];omega)⟩
  rw [hC]
  rcases hZ k C hC with ⟨f,rfl,hf⟩ | rfl
  ·rw [h.dat k f hf];rfl
  ·rw [hT];rfl
 ·rw [List.getElem?_eq_none (by rw [h.len];omega),List.getElem?_eq_none (by omega)];rfl
theorem xor_back (a x:Nat):a ^^^ (a ^^^ x)=x:=by rw [← Nat.xor_assoc,Nat.xor_self,Nat.zero_xor]
theorem TrueRow.none_ {T:List Sec} {D:List (Option Sec)} {P Q:Option Sec} (h:TrueRow T D P Q) (hg:goneL D=[]):T.map some=D :=
 h.map rfl fun k C hC=>by
  obtain ⟨f,rfl⟩:=lost_zero hg C (List.mem_of_getElem? hC)
  exact Or.inl ⟨f,rfl,hC⟩
theorem gone_not {D:List (Option Sec)} {k:Nat} (h:(k:Int) ∉ goneL D) {C:Option Sec} (hC:D[k]? = some C):∃ f,C=some f:=by
 cases C with
 | some f=>exact ⟨f,rfl⟩
 | none=>exact absurd (gone_mem hC) h
theorem TrueRow.one_ {T:List Sec} {D:List (Option Sec)} {P Q:Option Sec} (h:TrueRow T D P Q) {i:Nat} (hg:goneL D=[(i:Int)]) {x:Sec} (hx:T[i]? = some x):T.map some=D.set i (some x) :=
 h.map (by simp) fun k C hC=>by
  by_cases hk:i=k
  ·subst hk
   have hlt:i<D.length:=by rw [← h.len];exact (List.getElem?_eq_some_iff.1 hx).1
   rw [List.getElem?_set_self hlt] at hC
   cases hC
   exact Or.inr hx.symm
  ·rw [List.getElem?_set_ne hk] at hC
   obtain ⟨f,rfl⟩:=gone_not (by rw [hg];simp;omega) hC
   exact Or.inl ⟨f,rfl,hC⟩
theorem TrueRow.two_ {T:List Sec} {D:List (Option Sec)} {P Q:Option Sec} (h:TrueRow T D P Q) {i j:Nat} (hg:goneL D=[(i:Int),(j:Int)]) {x y:Sec} (hx:T[i]? = some x) (hy:T[j]? = some y):T.map some=(D.set i (some x)).set j (some y) :=
 h.map (by simp) fun k C hC=>by
  have hli:i<D.length:=by rw [← h.len];exact (List.getElem?_eq_some_iff.1 hx).1
  have hlj:j<D.length:=by rw [← h.len];exact (List.getElem?_eq_some_iff.1 hy).1
  by_cases hk:j=k
  ·subst hk
   rw [List.getElem?_set_self (by simpa using hlj)] at hC
   cases hC
   exact Or.inr hy.symm
  ·rw [List.getElem?_set_ne hk] at hC
   by_cases hk2:i=k
   ·subst hk2
    rw [List.getElem?_set_self hli] at hC
    cases hC
    exact Or.inr hx.symm
   ·rw [List.getElem?_set_ne hk2] at hC
    obtain ⟨f,rfl⟩:=gone_not (by rw [hg];simp;omega) hC
    exact Or.inl ⟨f,rfl,hC⟩
theorem miss_one {g:Nat} {f p x:Sec} (hx:SecOk x) (hg:g<256) (hf:SecOk f) (h:∀ b,(p b).toNat=(f b).toNat ^^^ gmN g (x b).toNat) (b:Fin 16):(xadd 1 f p b).toNat=gmN g (x b).toNat:=by
 have h1:=(nat_of (hf b)).2
 have h2:gmN g (x b).toNat<256:=gmN_lt hg
 rw [xadd_nat,h b,gm_one (xor_lt8 h1 h2),xor_back]
theorem TrueRow.fix {T:List Sec} {D:List (Option Sec)} {P Q:Option Sec} (h:TrueRow T D P Q) (hl:T.length≤30) (hlost:lostN D+lostN [P,Q]≤2):fixC D P Q=T.map some:=by
 have hgl:=goneL_len D
 have hDok:∀ C∈D,ColOk C:=by
  intro C hC
  cases C with
  | none=>trivial
  | some f =>
   obtain ⟨k,hk⟩:=List.getElem?_of_mem hC
   exact h.ok f (List.mem_of_getElem? (h.dat k f hk))
 have sP:SecOk (sumP D):=sumI_ok (fun _=>by omega) hDok _
 have sQ:SecOk (sumQ D):=sumI_ok expN_lt hDok _
 have idx:∀ x∈goneL D,∃ n:Nat,x=(n:Int)∧n<D.length∧D[n]? = some none:=fun x hx=>goneI_lt D D.length x hx
 have hTl:∀ {n:Nat},n<D.length→∃ t,T[n]? = some t∧SecOk t:=fun {n} hn=>by
  obtain ⟨t,ht⟩:∃ t,T[n]? = some t:=⟨_,List.getElem?_eq_getElem (by rw [h.len];omega)⟩
  exact ⟨t,ht,h.ok t (List.mem_of_getElem? ht)⟩
 match hG:goneL D with
 | [] =>
  have:fixC D P Q=D:=by unfold fixC;rw [hG]
  rw [this,h.none_ hG]
 | [x] =>
  obtain ⟨i,rfl,hil,hin⟩:=idx x (by rw [hG];simp)
  obtain ⟨t,ht,hto⟩:=hTl hil
  have hm:=h.one_ hG ht
  have hF:fixC D P Q=if P.isSome=true then D.set i (some (missP D P)) else D.set i (some (xadd (powN (expN i) 254) (sec []) (missQ D Q))):=by unfold fixC;rw [hG];simp only [Int.toNat_natCast]
  rw [hF,hm]
  rw [hG] at hgl
  have hl1:lostN D=1:=by simpa using hgl.symm
  cases P with
  | some p =>
   rw [if_pos (show (some p).isSome=true from rfl)]
   congr 2
   have hp:=h.p p rfl
   have hb:∀ b,(p b).toNat=(sumP D b).toNat ^^^ gmN 1 (t b).toNat:=fun b=>by
    rw [hp,hm]
    exact sumI_one (co:=fun _=>1) hil hin b
   have hpo:SecOk p:=by rw [hp];exact sumI_ok (fun _=>by omega) (map_some_ok h.ok) _
   refine sec_ext (xadd_ok (by omega) sP hpo) hto fun b=>?_
   show (xadd 1 (sumP D) p b).toNat=_
   rw [miss_one hto (by omega) sP hb b,gm_one (nat_of (hto b)).2]
  | none =>
   rw [if_neg (by simp)]
   congr 2
   cases Q with
   | none=>exact absurd hlost (by rw [hl1];decide)
   | some q =>
    have hq:=h.q q rfl
    have hb:∀ b,(q b).toNat=(sumQ D b).toNat ^^^ gmN (expN i) (t b).toNat:=fun b=>by
     rw [hq,hm]
     exact sumI_one (co:=expN) hil hin b
    have hqo:SecOk q:=by rw [hq];exact sumI_ok expN_lt (map_some_ok h.ok) _
    refine sec_ext (xadd_ok (powN_lt (expN_lt _)) sec0_ok (xadd_ok (by omega) sQ hqo)) hto fun b=>?_
    rw [xadd_nat]
    show 0 ^^^ gmN _ (xadd 1 (sumQ D) q b).toNat=_
    rw [miss_one hto (expN_lt _) sQ hb b,Nat.zero_xor,gm_inv (exp_ne0 (by have:=h.len;omega)) (expN_lt _) (nat_of (hto b)).2]
 | [x,y] =>
  obtain ⟨i,rfl,hil,hin⟩:=idx x (by rw [hG];simp)
  obtain ⟨j,rfl,hjl,hjn⟩:=idx y (by rw [hG];simp)
  have hij:i≠j:=by
   have hs:=goneI_sorted D D.length
   have hs:(goneL D).Pairwise (·<·):=hs
   rw [hG] at hs
   have:(i:Int)<(j:Int):=by simpa using hs
   omega
  obtain ⟨t,ht,hto⟩:=hTl hil
  obtain ⟨u,hu,huo⟩:=hTl hjl
  have hm:=h.two_ hG ht hu
  have hF:fixC D P Q=(D.set i (some (secX i j (missP D P) (missQ D Q)))).set j (some (secY i j (missP D P) (missQ D Q))):=by unfold fixC;rw [hG];simp only [Int.toNat_natCast]
  rw [hF,hm]
  rw [hG] at hgl
  have hl2:lostN D=2:=by simpa using hgl.symm
  cases P with
  | none =>
   rw [hl2] at hlost
   cases Q with
   | none=>exact absurd hlost (by show ¬ 2+2≤2;decide)
   | some v=>exact absurd hlost (by show ¬ 2+1≤2;decide)
  | some p =>
  cases Q with
  | none =>
   rw [hl2] at hlost
   exact absurd hlost (by show ¬ 2+1≤2;decide)
  | some q =>
   have hp:=h.p p rfl
   have hq:=h.q q rfl
   have hjn':(D.set i (some t))[j]? = some none:=by rw [List.getElem?_set_ne hij];exact hjn
   have hbp:∀ b,(xadd 1 (sumP D) p b).toNat=(t b).toNat ^^^ (u b).toNat:=fun b=>by
    have e:(p b).toNat=(sumP D b).toNat ^^^ ((t b).toNat ^^^ (u b).toNat):=by
     rw [hp,hm]
     have e1:=sumI_one (co:=fun _=>1) (D:=D.set i (some t)) (x:=u) (by simpa using hjl) hjn' b
     have e2:=sumI_one (co:=fun _=>1) (x:=t) hil hin b
     show (sumI (fun _=>1) _ _ b).toNat=_
     rw [e1,e2,gm_one (nat_of (huo b)).2,gm_one (nat_of (hto b)).2,Nat.xor_assoc]
     rfl
    rw [xadd_nat,e,gm_one (xor_lt8 (nat_of (sP b)).2 (xor_lt8 (nat_of (hto b)).2 (nat_of (huo b)).2)),xor_back]
   have hbq:∀ b,(xadd 1 (sumQ D) q b).toNat=gmN (expN i) (t b).toNat ^^^ gmN (expN j) (u b).toNat:=fun b=>by
    have e:(q b).toNat=(sumQ D b).toNat ^^^ (gmN (expN i) (t b).toNat ^^^ gmN (expN j) (u b).toNat):=by
     rw [hq,hm]
     have e1:=sumI_one (co:=expN) (D:=D.set i (some t)) (x:=u) (by simpa using hjl) hjn' b
     have e2:=sumI_one (co:=expN) (x:=t) hil hin b
     show (sumI expN _ _ b).toNat=_
     rw [e1,e2,Nat.xor_assoc]
     rfl
    rw [xadd_nat,e,gm_one (xor_lt8 (nat_of (sQ b)).2 (xor_lt8 (gmN_lt (expN_lt _)) (gmN_lt (expN_lt _)))),xor_back]
   have h30:i<30∧j<30:=by have:=h.len;omega
   have hx:secX i j (missP D (some p)) (missQ D (some q))=t:=by
    refine sec_ext (secX_ok _ _ _ _) hto fun b=>?_
    have:=(gm_two h30.1 h30.2 hij (nat_of (hto b)).2 (nat_of (huo b)).2).1
    show ((solX i j (xadd 1 (sumP D) p b).toNat (xadd 1 (sumQ D) q b).toNat:Nat):Int).toNat=_
    rw [hbp,hbq,Int.toNat_natCast]
    exact this
   have hy:secY i j (missP D (some p)) (missQ D (some q))=u:=by
    refine sec_ext (secY_ok _ _ _ _) huo fun b=>?_
    have:=(gm_two h30.1 h30.2 hij (nat_of (hto b)).2 (nat_of (huo b)).2).2
    show ((solY i j (xadd 1 (sumP D) p b).toNat (xadd 1 (sumQ D) q b).toNat:Nat):Int).toNat=_
    rw [hbp,hbq,Int.toNat_natCast]
    exact this
   rw [hx,hy]
 | a::b::c::l=>rw [hG] at hgl;simp at hgl;omega
theorem TrueRow.rowR {T:List Sec} {Cs:List (Option Sec)} (h:TrueRow T (rowD Cs) (rowPc Cs) (rowQc Cs)) (h2:2≤Cs.length) (hl:Cs.length≤32) (hlost:lostN Cs≤2):rowR Cs=T++[sumP (T.map some),sumQ (T.map some)]:=by
 have hs:=lost_split h2
 have hlT:T.length≤30:=by rw [h.len];unfold rowD;rw [List.length_take];omega
 have hf:=h.fix hlT (by omega)
 unfold Go.Proofs.rowR recP recQ
 rw [hf]
 have e1:(T.map some).map (fun C=>C.getD (sec []))=T:=by rw [List.map_map];exact List.map_id _
 rw [e1]
 congr 2
 ·cases hP:rowPc Cs with
  | none=>rfl
  | some f=>exact h.p f hP
 ·congr 1
  cases hQ:rowQc Cs with
  | none=>rfl
  | some f=>exact h.q f hQ
def viewS (s:SS) (i:Int) (a:Int):Option Sec:=cellD (s.ds.getD i.toNat dsk0) a
theorem colsS_view {g:Geo} {s:SS} {st off:Int} {k:Nat} (hk:k<g.d.toNat):(colsS g s st off)[k]? = some (viewS s (plcP g st off (k:Int)).dk (plcP g st off (k:Int)).at_):=colsS_at hk
def deadS (s:SS) (i:Int):Bool:=(s.ds.getD i.toNat dsk0).dead
structure SsOk (g:Geo) (s:SS):Prop where
 geo:GeoOk g
 num:(s.ds.length:Int)=g.d
 len:∀ D∈s.ds,(D.secs.length:Int)=g.c*g.s
 ok:∀ D∈s.ds,DskOk D
theorem SsOk.get {g:Geo} {s:SS} (h:SsOk g s) {i:Int} (h0:0≤i) (h1:i<g.d):s.ds.getD i.toNat dsk0∈s.ds:=by
 have:=h.num
 rw [List.getD_eq_getElem?_getD,List.getElem?_eq_getElem (by omega)]
 exact List.getElem_mem _
theorem view_dead {s:SS} {i a:Int} (h:deadS s i=true):viewS s i a=none:=by
 unfold viewS cellD
 unfold deadS at h
 rw [if_pos h]
theorem getD_setS {α:Type} {l:List α} {i j:Nat} (hi:i<l.length) (a d:α):(l.set i a).getD j d=if i=j then a else l.getD j d:=by
 by_cases h:i=j
 ·subst h;rw [getD_set_self hi,if_pos rfl]
 ·rw [getD_set_ne h,if_neg h]
theorem cellD_set {D:Dsk} (hd:D.dead=false) {at_:Int} (h:0≤at_∧at_.toNat<D.secs.length) {c:Cel} (hs:c.sum=sumS at_ c.data) {a:Int} (ha:0≤a):cellD { D with secs:=D.secs.set at_.toNat ⟨c,true⟩ } a=if a=at_ then some c.data else cellD D a:=by
 show (if D.dead=true then none else if ((D.secs.set at_.toNat ⟨c,true⟩).getD a.toNat sct0).good=false then none else if ((D.secs.set at_.toNat ⟨c,true⟩).getD a.toNat sct0).cel.sum=sumS a ((D.secs.set at_.toNat ⟨c,true⟩).getD a.toNat sct0).cel.data then some ((D.secs.set at_.toNat ⟨c,true⟩).getD a.toNat sct0).cel.data else none)=_
 have hn:¬ D.dead=true:=by rw [hd];decide
 rw [if_neg hn,getD_setS h.2]
 by_cases e:a=at_
 ·subst e
  rw [if_pos rfl,if_pos rfl,if_neg (show ¬ (true=false) by decide),if_pos hs]
 ·rw [if_neg (show ¬ at_.toNat=a.toNat by omega),if_neg e]
  unfold cellD
  rw [if_neg hn]
theorem apply1_ok {g:Geo} {s:SS} (h:SsOk g s) {x:PutS} (hx:PutOk g x) (hl:Lit0 s.pw) (hal:deadS s x.plc.dk=false) {ep:Int} (hep:(s.ds.getD x.plc.dk.toNat dsk0).key≤ep) (hc:SecOk x.cel.data) (hs:x.cel.sum=sumS x.plc.at_ x.cel.data) :
  (apply1 s x ep).1=0∧SsOk g (apply1 s x ep).2∧(apply1 s x ep).2.pw=(stepP s.pw).2∧(∀ i,deadS (apply1 s x ep).2 i=deadS s i)∧(∀ i:Nat,((apply1 s x ep).2.ds.getD i dsk0).key=(s.ds.getD i dsk0).key) ∧
  ∀ i a,0≤i→0≤a→viewS (apply1 s x ep).2 i a=if i=x.plc.dk∧a=x.plc.at_ then some x.cel.data else viewS s i a:=by
 obtain ⟨⟨d0,d1⟩,⟨a0,a1⟩⟩:=hx
 have hn:=h.num
 have hmem:=h.get d0 d1
 unfold deadS at hal
 have hw:writeD s.pw (s.ds.getD x.plc.dk.toNat dsk0) x.plc.at_ x.cel ep=((1,0),(stepP s.pw).2,{ (s.ds.getD x.plc.dk.toNat dsk0) with secs:=(s.ds.getD x.plc.dk.toNat dsk0).secs.set x.plc.at_.toNat ⟨x.cel,true⟩ }):=by
  unfold writeD
  rw [if_neg (by simp [hl.1]),if_neg (by rw [hal];decide),if_neg (by omega),if_neg (by simp [(lit_step hl).1])]
 have ha:apply1 s x ep=(0,⟨s.ds.set x.plc.dk.toNat { (s.ds.getD x.plc.dk.toNat dsk0) with secs:=(s.ds.getD x.plc.dk.toNat dsk0).secs.set x.plc.at_.toNat ⟨x.cel,true⟩ },(stepP s.pw).2⟩):=by
  unfold apply1
  rw [hw]
 have hlt:x.plc.dk.toNat<s.ds.length:=by omega
 have hslen:=h.len _ hmem
 have hok:=h.ok _ hmem
 rw [ha]
 generalize hD:s.ds.getD x.plc.dk.toNat dsk0=D at *
 refine ⟨rfl,⟨h.geo,by simpa using hn,fun E hE=>?_,fun E hE=>?_⟩,rfl,fun i=>?_,fun i=>?_,fun i a hi hia=>?_⟩
 ·rcases List.mem_or_eq_of_mem_set hE with hE | rfl
  ·exact h.len E hE
  ·simpa using hslen
 ·rcases List.mem_or_eq_of_mem_set hE with hE | rfl
  ·exact h.ok E hE
  ·refine ⟨fun y hy=>?_,hok.2⟩
   rcases List.mem_or_eq_of_mem_set hy with hy | rfl
   ·exact hok.1 y hy
   ·exact ⟨hc,by show 0≤x.cel.sum;rw [hs];exact (sumS_ok _ _).1,by show x.cel.sum≤_;rw [hs];exact (sumS_ok _ _).2⟩
 ·unfold deadS
  simp only
  rw [getD_setS hlt]
  by_cases e:x.plc.dk.toNat=i.toNat
  ·rw [if_pos e,← e,hD]
  ·rw [if_neg e]
 ·simp only
  rw [getD_setS hlt]
  by_cases e:x.plc.dk.toNat=i
  ·rw [if_pos e,← e,hD]
  ·rw [if_neg e]
 ·unfold viewS
  simp only
  rw [getD_setS hlt]
  by_cases e:x.plc.dk.toNat=i.toNat
  ·have e':i=x.plc.dk:=by omega
   rw [if_pos e,← e,hD]
   refine (cellD_set hal ⟨a0,by omega⟩ hs hia).trans ?_
   by_cases e2:a=x.plc.at_
   ·rw [if_pos e2,if_pos ⟨e',e2⟩]
   ·rw [if_neg e2,if_neg (fun h=>e2 h.2)]
  ·rw [if_neg e,if_neg (fun h=>e (by rw [h.1]))]
theorem plcP_inj {g:Geo} (hg:GeoOk g) {st off st2 off2:Int} {k k2:Int} (hst:0≤st∧st<g.s) (hof:0≤off∧off<g.c) (hst2:0≤st2∧st2<g.s) (hof2:0≤off2∧off2<g.c) (hk:0≤k∧k<g.d) (hk2:0≤k2∧k2<g.d)
  (h1:(plcP g st off k).dk=(plcP g st2 off2 k2).dk) (h2:(plcP g st off k).at_=(plcP g st2 off2 k2).at_):st=st2∧off=off2∧k=k2:=by
 have hc:=hg.c
 have hd:=hg.d
 have h2:st*g.c+off=st2*g.c+off2:=h2
 have e1:(st*g.c+off) / g.c=st:=by rw [Int.add_comm,Int.add_mul_ediv_right _ _ (by omega),Int.ediv_eq_zero_of_lt hof.1 hof.2,Int.zero_add]
 have e2:(st2*g.c+off2) / g.c=st2:=by rw [Int.add_comm,Int.add_mul_ediv_right _ _ (by omega),Int.ediv_eq_zero_of_lt hof2.1 hof2.2,Int.zero_add]
 have hs:st=st2:=by rw [← e1,← e2,h2]
 subst hs
 refine ⟨rfl,by omega,?_⟩
 have h1:(firstP g st+k) % g.d=(firstP g st+k2) % g.d:=h1
 have hf:=firstP_lt hg st
 have:=Int.emod_emod_of_dvd (firstP g st+k) (Int.dvd_refl g.d)
 have h3:((firstP g st+k)-(firstP g st+k2)) % g.d=0:=Int.emod_eq_emod_iff_emod_sub_eq_zero.1 h1
 have h4:(k-k2) % g.d=0:=by rw [← h3];congr 1;omega
 have h5:=Int.emod_emod_of_dvd (k-k2) (Int.dvd_refl g.d)
 obtain ⟨c,hcc⟩:=Int.dvd_of_emod_eq_zero h4
 have:c=0:=by
  refine Classical.byContradiction fun hne=>?_
  rcases (show c ≤ -1∨1≤c by omega) with h | h
  ·have:=Int.mul_le_mul_of_nonneg_left h (show 0≤g.d by omega)
   omega
  ·have:=Int.mul_le_mul_of_nonneg_left h (show 0≤g.d by omega)
   omega
 rw [this] at hcc
 omega
theorem applyL_plan {g:Geo} {st off:Int} (hst:0≤st∧st<g.s) (hof:0≤off∧off<g.c) {row:List Sec} (hrok:∀ f∈row,SecOk f) {s0:SS} {ep:Int}:∀ (ks:List Int) (s:SS),(∀ k∈ks,0≤k∧k<g.d)→SsOk g s→Lit0 s.pw→(∀ i,deadS s i=deadS s0 i)→(∀ i:Nat,(s.ds.getD i dsk0).key≤ep) →
  ∃ s',applyL ep (planL g s0 st off row ks) s=(0,s')∧SsOk g s'∧Lit0 s'.pw∧(∀ i,deadS s' i=deadS s0 i)∧(∀ i:Nat,(s'.ds.getD i dsk0).key=(s.ds.getD i dsk0).key) ∧
   (∀ i a,0≤i→0≤a→(∀ k∈ks,¬ (i=(plcP g st off k).dk∧a=(plcP g st off k).at_))→viewS s' i a=viewS s i a) ∧
   (∀ k∈ks,deadS s0 (plcP g st off k).dk=false→viewS s' (plcP g st off k).dk (plcP g st off k).at_=some (row.getD k.toNat (sec [])))
 | [],s,_,hs,hl,hd,_=>⟨s,rfl,hs,hl,hd,fun _=>rfl,fun _ _ _ _ _=>rfl,by simp⟩
 | k::ks,s,hks,hs,hl,hd,hep=>by
  have hk:=hks k (by simp)
  obtain ⟨pk1,pk2⟩:=plcP_ok hs.geo hst hof k
  have hrk:SecOk (row.getD k.toNat (sec [])):=by
   rw [List.getD_eq_getElem?_getD]
   cases hx:row[k.toNat]? with
   | none=>exact sec0_ok
   | some f=>exact hrok f (List.mem_of_getElem? hx)
  by_cases hdk:deadS s0 (plcP g st off k).dk=true
  ·have e:planL g s0 st off row (k::ks)=planL g s0 st off row ks:=by
    unfold planL
    rw [List.filterMap_cons]
    have:planK g s0 st off row k=none:=by unfold planK;unfold deadS at hdk;rw [if_pos hdk]
    rw [this]
   obtain ⟨s',h1,h2,h3,h4,h5,h6,h7⟩:=applyL_plan (s0:=s0) hst hof hrok ks s (fun k hk=>hks k (by simp [hk])) hs hl hd hep
   refine ⟨s',by rw [e];exact h1,h2,h3,h4,h5,fun i a hi ha hn=>h6 i a hi ha fun k hk=>hn k (by simp [hk]),fun k' hk' hal=>?_⟩
   rcases List.mem_cons.1 hk' with rfl | hk'
   ·rw [hdk] at hal;cases hal
   ·exact h7 k' hk' hal
  ·have hdk:deadS s0 (plcP g st off k).dk=false:=by simpa using hdk
   have e:planL g s0 st off row (k::ks)=⟨plcP g st off k,⟨row.getD k.toNat (sec []),sumS (plcP g st off k).at_ (row.getD k.toNat (sec []))⟩⟩::planL g s0 st off row ks:=by
    unfold planL
    rw [List.filterMap_cons]
    have:planK g s0 st off row k=some ⟨plcP g st off k,⟨row.getD k.toNat (sec []),sumS (plcP g st off k).at_ (row.getD k.toNat (sec []))⟩⟩:=by unfold planK;unfold deadS at hdk;rw [if_neg (by rw [hdk];decide)]
    rw [this]
   obtain ⟨a1,a2,a3,a4,a5,a6⟩:=apply1_ok hs (x:=⟨plcP g st off k,⟨row.getD k.toNat (sec []),sumS (plcP g st off k).at_ (row.getD k.toNat (sec []))⟩⟩) ⟨pk1,pk2⟩ hl (by rw [hd];exact hdk) (hep _) hrk rfl
   rw [e]
   have hst':applyL ep (⟨plcP g st off k,⟨row.getD k.toNat (sec []),sumS (plcP g st off k).at_ (row.getD k.toNat (sec []))⟩⟩::planL g s0 st off row ks) s=applyL ep (planL g s0 st off row ks) (apply1 s ⟨plcP g st off k,⟨row.getD k.toNat (sec []),sumS (plcP g st off k).at_ (row.getD k.toNat (sec []))⟩⟩ ep).2:=by
    show (if _∧_ then _ else _)=_
    rw [if_neg (by rw [a1];simp)]
   rw [hst']
   generalize apply1 s ⟨plcP g st off k,⟨row.getD k.toNat (sec []),sumS (plcP g st off k).at_ (row.getD k.toNat (sec []))⟩⟩ ep=r at *
   obtain ⟨s',h1,h2,h3,h4,h5,h6,h7⟩:=applyL_plan (s0:=s0) hst hof hrok ks r.2 (fun k hk=>hks k (by simp [hk])) a2 (by rw [a3];exact (lit_step hl).2) (fun i=>by rw [a4,hd]) (fun i=>by rw [a5];exact hep i)
   refine ⟨s',h1,h2,h3,h4,fun i=>by rw [h5,a5],fun i a hi ha hn=>?_,fun k' hk' hal=>?_⟩
   ·rw [h6 i a hi ha fun k hk=>hn k (by simp [hk]),a6 i a hi ha,if_neg (hn k (by simp))]
   ·by_cases hmem:k'∈ks
    ·exact h7 k' hmem hal
    ·have hkk:k'=k:=by
      rcases List.mem_cons.1 hk' with h | h
      ·exact h
      ·exact absurd h hmem
     subst hkk
     rw [h6 _ _ pk1.1 pk2.1 fun k2 hk2 he=>?_,a6 _ _ pk1.1 pk2.1,if_pos ⟨rfl,rfl⟩]
     have:=plcP_inj hs.geo hst hof hst hof hk (hks k2 (by simp [hk2])) he.1 he.2
     exact hmem (by rw [this.2.2];exact hk2)
def lbaP (g:Geo) (st off k:Int):Int:=(st*(g.d-2)+k)*g.c+off
def rowT (g:Geo) (now:Int→Sec) (st off:Int):List Sec:=(List.range (g.d-2).toNat).map fun (k:Nat)=>now (lbaP g st off (k:Int))
def fullT (T:List Sec):List Sec:=T++[sumP (T.map some),sumQ (T.map some)]
theorem len_rowT (g:Geo) (now:Int→Sec) (st off:Int):(rowT g now st off).length=(g.d-2).toNat:=by simp [rowT]
theorem rowT_at {g:Geo} {now:Int→Sec} {st off:Int} {k:Nat} (hk:k<(g.d-2).toNat):(rowT g now st off)[k]? = some (now (lbaP g st off (k:Int))):=by
 unfold rowT
 rw [List.getElem?_map,List.getElem?_range hk];rfl
def Inv (g:Geo) (s:SS) (now:Int→Sec):Prop:=∀ st off:Int,0≤st∧st<g.s→0≤off∧off<g.c→∀ k:Nat,k<g.d.toNat→∀ f,viewS s (plcP g st off (k:Int)).dk (plcP g st off (k:Int)).at_=some f→(fullT (rowT g now st off))[k]? = some f
theorem Inv.row {g:Geo} {s:SS} {now:Int→Sec} (hg:GeoOk g) (h:Inv g s now) (hn:∀ l,SecOk (now l)) {st off:Int} (hst:0≤st∧st<g.s) (hof:0≤off∧off<g.c):TrueRow (rowT g now st off) (rowD (colsS g s st off)) (rowPc (colsS g s st off)) (rowQc (colsS g s st off)):=by
 have hd:=hg.d
 have hl:=len_colsS g s st off
 have hlT:=len_rowT g now st off
 have full:∀ (k:Nat) f,(colsS g s st off)[k]? = some (some f)→(fullT (rowT g now st off))[k]? = some f:=by
  intro k f hk
  have hlt:k<g.d.toNat:=by rw [← hl];exact (List.getElem?_eq_some_iff.1 hk).1
  rw [colsS_view hlt] at hk
  exact h st off hst hof k hlt f (Option.some.inj hk)
 refine ⟨?_,?_,?_,?_,?_⟩
 ·unfold rowD;rw [List.length_take,hl,hlT];omega
 ·intro k f hk
  unfold rowD at hk
  rw [List.getElem?_take] at hk
  split at hk
  ·rename_i hkl
   have:=full k f hk
   unfold fullT at this
   rwa [List.getElem?_append_left (by omega)] at this
  ·cases hk
 ·intro f hf
  unfold rowT at hf
  obtain ⟨k,_,rfl⟩:=List.mem_map.1 hf
  exact hn _
 ·intro f hf
  unfold rowPc at hf
  rw [List.getD_eq_getElem?_getD] at hf
  have:(colsS g s st off)[(colsS g s st off).length-2]? = some (some f):=by
   cases hx:(colsS g s st off)[(colsS g s st off).length-2]? with
   | none=>rw [hx] at hf;cases hf
   | some C=>rw [hx] at hf;exact congrArg some hf
  have:=full _ f this
  unfold fullT at this
  rw [List.getElem?_append_right (by omega),show (colsS g s st off).length-2-(rowT g now st off).length=0 by omega] at this
  exact (Option.some.inj this).symm
 ·intro f hf
  unfold rowQc at hf
  rw [List.getD_eq_getElem?_getD] at hf
  have:(colsS g s st off)[(colsS g s st off).length-1]? = some (some f):=by
   cases hx:(colsS g s st off)[(colsS g s st off).length-1]? with
   | none=>rw [hx] at hf;cases hf
   | some C=>rw [hx] at hf;exact congrArg some hf
  have:=full _ f this
  unfold fullT at this
  rw [List.getElem?_append_right (by omega),show (colsS g s st off).length-1-(rowT g now st off).length=1 by omega] at this
  exact (Option.some.inj this).symm
theorem Inv.rowR {g:Geo} {s:SS} {now:Int→Sec} (hg:GeoOk g) (h:Inv g s now) (hn:∀ l,SecOk (now l)) {st off:Int} (hst:0≤st∧st<g.s) (hof:0≤off∧off<g.c) (hl:lostN (colsS g s st off)≤2):rowR (colsS g s st off)=fullT (rowT g now st off):=by
 have hd:=hg.d
 have hl':=len_colsS g s st off
 exact (h.row hg hn hst hof).rowR (by omega) (by omega) hl
theorem lbaP_spot {g:Geo} (hg:GeoOk g) (lba:Int):lbaP g (spotP g lba).1 (spotP g lba).2.2 (spotP g lba).2.1=lba:=by
 have hd:=hg.d
 have hc:=hg.c
 unfold lbaP spotP
 simp only
 have h1:lba / ((g.d-2)*g.c)=lba / g.c / (g.d-2):=by rw [Int.mul_comm,Int.ediv_ediv_of_nonneg (by omega)]
 rw [h1]
 have h2:=Int.mul_ediv_add_emod (lba / g.c) (g.d-2)
 have h3:=Int.mul_ediv_add_emod lba g.c
 rw [Int.mul_comm (lba / g.c / (g.d-2)),h2,Int.mul_comm (lba / g.c),h3]
theorem spotP_lba {g:Geo} (hg:GeoOk g) {st off k:Int} (hst:0≤st) (hof:0≤off∧off<g.c) (hk:0≤k∧k<g.d-2):spotP g (lbaP g st off k)=(st,k,off):=by
 have hd:=hg.d
 have hc:=hg.c
 unfold lbaP spotP
 have e1:((st*(g.d-2)+k)*g.c+off) / g.c=st*(g.d-2)+k:=by rw [Int.add_comm,Int.add_mul_ediv_right _ _ (by omega),Int.ediv_eq_zero_of_lt hof.1 hof.2,Int.zero_add]
 have e2:(st*(g.d-2)+k) / (g.d-2)=st:=by rw [Int.add_comm,Int.add_mul_ediv_right _ _ (by omega),Int.ediv_eq_zero_of_lt hk.1 hk.2,Int.zero_add]
 have e3:(st*(g.d-2)+k) % (g.d-2)=k:=by rw [Int.add_comm,Int.add_mul_emod_self_right,Int.emod_eq_of_lt hk.1 hk.2]
 have e4:((st*(g.d-2)+k)*g.c+off) % g.c=off:=by rw [Int.add_comm,Int.add_mul_emod_self_right,Int.emod_eq_of_lt hof.1 hof.2]
 have h1:∀ l:Int,l / ((g.d-2)*g.c)=l / g.c / (g.d-2):=fun l=>by rw [Int.mul_comm,Int.ediv_ediv_of_nonneg (by omega)]
 rw [h1,e1,e2,e3,e4]
theorem Inv.read {g:Geo} {s:SS} {now:Int→Sec} (hg:GeoOk g) (h:Inv g s now) (hn:∀ l,SecOk (now l)) (hon:s.pw.on=true) {lba:Int} (h0:0≤lba) (h1:lba<(g.d-2)*g.c*g.s) :
  readS g s lba=(now lba,0)∨(readS g s lba=(sec [],8)∧¬ lostN (colsS g s (spotP g lba).1 (spotP g lba).2.2)≤2∧viewS s (plcP g (spotP g lba).1 (spotP g lba).2.2 (spotP g lba).2.1).dk (plcP g (spotP g lba).1 (spotP g lba).2.2 (spotP g lba).2.1).at_=none):=by
 obtain ⟨pst,pco,pof⟩:=spotP_ok hg h0 h1
 have hd:=hg.d
 have hls:=lbaP_spot hg lba
 unfold readS
 generalize spotP g lba=x at *
 simp only
 rw [if_neg (by rw [hon];decide)]
 have hk:x.2.1.toNat<g.d.toNat:=by omega
 have e:((x.2.1.toNat:Nat):Int)=x.2.1:=by omega
 have hC:=colsS_view (g:=g) (s:=s) (st:=x.1) (off:=x.2.2) hk
 rw [e] at hC
 have hg':(colsS g s x.1 x.2.2).getD x.2.1.toNat none=viewS s (plcP g x.1 x.2.2 x.2.1).dk (plcP g x.1 x.2.2 x.2.1).at_:=by rw [List.getD_eq_getElem?_getD,hC];rfl
 have hT:(fullT (rowT g now x.1 x.2.2))[x.2.1.toNat]? = some (now lba):=by
  unfold fullT
  rw [List.getElem?_append_left (by rw [len_rowT];omega),rowT_at (by omega),e,hls]
 rw [hg']
 cases hv:viewS s (plcP g x.1 x.2.2 x.2.1).dk (plcP g x.1 x.2.2 x.2.1).at_ with
 | some f =>
  have:=h x.1 x.2.2 pst pof x.2.1.toNat hk f (by rw [e];exact hv)
  rw [hT] at this
  left
  rw [Option.some.inj this]
 | none =>
  by_cases hl:lostN (colsS g s x.1 x.2.2)≤2
  ·left
   simp only
   rw [if_pos hl,h.rowR hg hn pst pof hl,List.getD_eq_getElem?_getD,hT];rfl
  ·right
   simp only
   rw [if_neg hl]
   exact ⟨rfl,hl,by trivial⟩
end Go.Proofs
