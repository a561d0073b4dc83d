import Derived.Test.YthhimblbnnafkaaGreatTm3
set_option linter.unusedSimpArgs false
set_option linter.unusedVariables false
namespace Go.Proofs
open Go Go.Ev
set_option maxRecDepth 100000
def upd (now:Int→Sec) (lba:Int) (f:Sec):Int→Sec:=fun l=>if l=lba then f else now l
theorem rowT_upd_same {g:Geo} (hg:GeoOk g) {now:Int→Sec} {st off k:Int} (hst:0≤st) (hof:0≤off∧off<g.c) (hk:0≤k∧k<g.d-2) (f:Sec):rowT g (upd now (lbaP g st off k) f) st off=(rowT g now st off).set k.toNat f:=by
 apply List.ext_getElem?
 intro i
 by_cases hi:i<(g.d-2).toNat
 ·rw [rowT_at hi]
  unfold upd
  by_cases e:k.toNat=i
  ·subst e
   rw [List.getElem?_set_self (by rw [len_rowT];exact hi),if_pos (by rw [show ((k.toNat:Nat):Int)=k by omega])]
  ·rw [List.getElem?_set_ne e,rowT_at hi,if_neg]
   intro he
   have h1:=spotP_lba hg hst hof (k:=(i:Int)) (by omega)
   have h2:=spotP_lba hg hst hof hk
   rw [he,h2] at h1
   simp only [Prod.mk.injEq,true_and,and_true] at h1
   omega
 ·rw [List.getElem?_eq_none (by rw [len_rowT];omega),List.getElem?_eq_none (by rw [List.length_set,len_rowT];omega)]
theorem rowT_upd_other {g:Geo} (hg:GeoOk g) {now:Int→Sec} {st off k st2 off2:Int} (hst:0≤st) (hof:0≤off∧off<g.c) (hk:0≤k∧k<g.d-2) (hst2:0≤st2) (hof2:0≤off2∧off2<g.c) (hne:¬ (st2=st∧off2=off)) (f:Sec):rowT g (upd now (lbaP g st off k) f) st2 off2=rowT g now st2 off2:=by
 apply List.ext_getElem?
 intro i
 by_cases hi:i<(g.d-2).toNat
 ·rw [rowT_at hi,rowT_at hi]
  unfold upd
  rw [if_neg]
  intro he
  have h1:=spotP_lba hg hst2 hof2 (k:=(i:Int)) (by omega)
  have h2:=spotP_lba hg hst hof hk
  rw [he,h2] at h1
  simp only [Prod.mk.injEq] at h1
  exact hne ⟨h1.1.symm,h1.2.2.symm⟩
 ·rw [List.getElem?_eq_none (by rw [len_rowT];omega),List.getElem?_eq_none (by rw [len_rowT];omega)]
theorem rowW_full {T:List Sec} {col:Nat} {data:Sec} (h:col<T.length):rowW (fullT T) col data=fullT (T.set col data):=by
 have e:((fullT T).set col data).take ((fullT T).length-2)=T.set col data:=by
  unfold fullT
  rw [List.set_append_left _ _ h]
  have:(T++[sumP (T.map some),sumQ (T.map some)]).length-2=(T.set col data).length:=by simp
  rw [this,List.take_left]
 show ((fullT T).set col data).take ((fullT T).length-2)++[sumP ((((fullT T).set col data).take ((fullT T).length-2)).map some),sumQ ((((fullT T).set col data).take ((fullT T).length-2)).map some)]=_
 rw [e];rfl
theorem len_fullT (T:List Sec):(fullT T).length=T.length+2:=by simp [fullT]
theorem fullT_ok {T:List Sec} (h:∀ f∈T,SecOk f):∀ f∈fullT T,SecOk f:=by
 intro f hf
 unfold fullT at hf
 rcases List.mem_append.1 hf with hf | hf
 ·exact h f hf
 ·simp only [List.mem_cons,List.not_mem_nil,or_false] at hf
  rcases hf with rfl | rfl
  ·exact sumI_ok (fun _=>by omega) (map_some_ok h) _
  ·exact sumI_ok expN_lt (map_some_ok h) _
theorem rowT_ok {g:Geo} {now:Int→Sec} (hn:∀ l,SecOk (now l)) (st off:Int):∀ f∈rowT g now st off,SecOk f:=by
 intro f hf
 unfold rowT at hf
 obtain ⟨k,_,rfl⟩:=List.mem_map.1 hf
 exact hn _
theorem upd_ok {now:Int→Sec} (hn:∀ l,SecOk (now l)) {f:Sec} (hf:SecOk f) (l:Int):∀ i,SecOk (upd now l f i):=by
 intro i
 unfold upd
 split
 ·exact hf
 ·exact hn i
theorem planL_ok {g:Geo} (hg:GeoOk g) {s:SS} {st off:Int} (hst:0≤st∧st<g.s) (hof:0≤off∧off<g.c) {row:List Sec} {ks:List Int}:∀ x∈planL g s st off row ks,PutOk g x:=by
 intro x hx
 unfold planL at hx
 obtain ⟨k,_,hk⟩:=List.mem_filterMap.1 hx
 unfold planK at hk
 split at hk
 ·cases hk
 ·cases hk
  exact plcP_ok hg hst hof k
structure Written (g:Geo) (s s':SS) (now:Int→Sec) (lba:Int) (data:Sec):Prop where
 ss:SsOk g s'
 lit:Lit0 s'.pw
 dead:∀ i,deadS s' i=deadS s i
 key:∀ i:Nat,(s'.ds.getD i dsk0).key=(s.ds.getD i dsk0).key
 inv:Inv g s' (upd now lba data)
 view:∀ i a,0≤i→0≤a→viewS s' i a=none→viewS s i a=none∨deadS s i=true
theorem Inv.write {g:Geo} {s:SS} {now:Int→Sec} (hs:SsOk g s) (h:Inv g s now) (hn:∀ l,SecOk (now l)) (hl:Lit0 s.pw) {lba:Int} (h0:0≤lba) (h1:lba<(g.d-2)*g.c*g.s) {data:Sec} (hdat:SecOk data) {ep:Int} (hep:∀ i:Nat,(s.ds.getD i dsk0).key≤ep)
  (hlost:lostN (colsS g s (spotP g lba).1 (spotP g lba).2.2)≤2) :
  (planS g s lba data).2=0∧∃ s',applyS g s (planS g s lba data).1 ep=(0,s')∧Written g s s' now lba data:=by
 have hg:=hs.geo
 obtain ⟨pst,pco,pof⟩:=spotP_ok hg h0 h1
 have hd:=hg.d
 have hls:=lbaP_spot hg lba
 have hrow:=h.rowR hg hn pst pof hlost
 have hplan:planS g s lba data=(planL g s (spotP g lba).1 (spotP g lba).2.2 (rowW (Go.Proofs.rowR (colsS g s (spotP g lba).1 (spotP g lba).2.2)) (spotP g lba).2.1.toNat data) [(spotP g lba).2.1,g.d-2,g.d-1],0):=by
  unfold planS
  simp only
  rw [if_neg (by rw [hl.1];decide),if_pos hlost]
 rw [hplan,hrow]
 generalize spotP g lba=x at *
 rw [rowW_full (by rw [len_rowT];omega),← rowT_upd_same hg pst.1 pof pco,hls]
 have hok':=upd_ok hn hdat lba
 have hks:∀ k∈[x.2.1,g.d-2,g.d-1],0≤k∧k<g.d:=by
  intro k hk
  simp only [List.mem_cons,List.not_mem_nil,or_false] at hk
  rcases hk with rfl | rfl | rfl <;> omega
 obtain ⟨s',a1,a2,a3,a4,a5,a6,a7⟩:=applyL_plan (s0:=s) (ep:=ep) pst pof (fullT_ok (rowT_ok hok' x.1 x.2.2)) [x.2.1,g.d-2,g.d-1] s hks hs hl (fun _=>rfl) hep
 refine ⟨rfl,s',?_,a2,a3,a4,a5,?_,?_⟩
 ·unfold applyS
  rw [if_pos (planL_ok hg pst pof)]
  exact a1
 ·intro st off hst hof k hk f hv
  obtain ⟨pk1,pk2⟩:=plcP_ok hg hst hof (k:Int)
  by_cases hrow:st=x.1∧off=x.2.2
  ·obtain ⟨rfl,rfl⟩:=hrow
   by_cases hmem:(k:Int)∈[x.2.1,g.d-2,g.d-1]
   ·cases hdk:deadS s (plcP g x.1 x.2.2 (k:Int)).dk with
    | true =>
     rw [view_dead (by rw [a4];exact hdk)] at hv
     cases hv
    | false =>
     have:=a7 _ hmem hdk
     rw [hv] at this
     have:=Option.some.inj this
     rw [this,Int.toNat_natCast,List.getD_eq_getElem?_getD]
     have hlt:k<(fullT (rowT g (upd now lba data) x.1 x.2.2)).length:=by rw [len_fullT,len_rowT];omega
     rw [List.getElem?_eq_getElem hlt];rfl
   ·rw [a6 _ _ pk1.1 pk2.1 fun k2 hk2 he=>?_] at hv
    ·have:=h x.1 x.2.2 pst pof k hk f hv
     have hne:¬ (k:Int)=x.2.1∧¬ (k:Int)=g.d-2∧¬ (k:Int)=g.d-1:=by simpa using hmem
     unfold fullT at this ⊢
     rw [List.getElem?_append_left (by rw [len_rowT];omega)] at this ⊢
     have e:=rowT_upd_same hg (now:=now) pst.1 pof pco data
     rw [hls] at e
     rw [e,List.getElem?_set_ne (by omega)]
     exact this
    ·have:=plcP_inj hg hst hof pst pof (by omega) (hks k2 hk2) he.1 he.2
     exact hmem (by rw [this.2.2];exact hk2)
  ·rw [a6 _ _ pk1.1 pk2.1 fun k2 hk2 he=>?_] at hv
   ·have:=h st off hst hof k hk f hv
    have e:=rowT_upd_other hg (now:=now) pst.1 pof pco hst.1 hof hrow data
    rw [hls] at e
    rw [e]
    exact this
   ·have:=plcP_inj hg hst hof pst pof (by omega) (hks k2 hk2) he.1 he.2
    exact hrow ⟨this.1,this.2.1⟩
 ·intro i a hi ha hv
  by_cases hex:∃ k∈[x.2.1,g.d-2,g.d-1],i=(plcP g x.1 x.2.2 k).dk∧a=(plcP g x.1 x.2.2 k).at_
  ·obtain ⟨k,hk,rfl,rfl⟩:=hex
   cases hdk:deadS s (plcP g x.1 x.2.2 k).dk with
   | true=>exact Or.inr rfl
   | false =>
    have:=a7 k hk hdk
    rw [hv] at this
    cases this
  ·rw [a6 i a hi ha fun k hk he=>hex ⟨k,hk,he⟩] at hv
   exact Or.inl hv
def newS (g:Geo) (pw:Pow):SS:=⟨List.replicate g.d.toNat (newD (g.c*g.s).toNat),pw⟩
def now0:Int→Sec:=fun _=>sec []
theorem now0_ok:∀ l,SecOk (now0 l):=fun _=>sec0_ok
theorem xadd_zero (g:Nat):xadd g (sec []) (sec [])=sec []:=by
 funext k
 show (((0:Int).toNat ^^^ gmN g (0:Int).toNat:Nat):Int)=0
 show ((0 ^^^ gmN g 0:Nat):Int)=0
 rw [gm_zero];rfl
theorem sumI_zero {co:Nat→Nat} {T:List (Option Sec)} (h:∀ C∈T,C=some (sec [])):∀ k,sumI co T k=sec []
 | 0=>rfl
 | k+1=>by
  rw [sumI_at,sumI_zero h k]
  cases hx:T.getD k none with
  | none=>rfl
  | some f =>
   have:T.getD k none∈T∨T.getD k none=none:=by
    rw [List.getD_eq_getElem?_getD]
    cases hy:T[k]? with
    | none=>exact Or.inr rfl
    | some y=>exact Or.inl (List.mem_of_getElem? hy)
   rcases this with h1 | h1
   ·have:=h _ h1
    rw [hx] at this
    cases this
    exact xadd_zero _
   ·rw [hx] at h1;cases h1
theorem full_zero {g:Geo} {st off:Int} {k:Nat} (hg:GeoOk g) (hk:k<g.d.toNat):(fullT (rowT g now0 st off))[k]? = some (sec []):=by
 have hd:=hg.d
 have hz:∀ C∈(rowT g now0 st off).map some,C=some (sec []):=by
  intro C hC
  obtain ⟨f,hf,rfl⟩:=List.mem_map.1 hC
  unfold rowT at hf
  obtain ⟨j,_,rfl⟩:=List.mem_map.1 hf
  rfl
 unfold fullT
 have e1:sumP ((rowT g now0 st off).map some)=sec []:=sumI_zero hz _
 have e2:sumQ ((rowT g now0 st off).map some)=sec []:=sumI_zero hz _
 rw [e1,e2]
 by_cases h1:k<(g.d-2).toNat
 ·rw [List.getElem?_append_left (by rw [len_rowT];exact h1),rowT_at h1];rfl
 ·rw [List.getElem?_append_right (by rw [len_rowT];omega),len_rowT]
  rcases (show k-(g.d-2).toNat=0∨k-(g.d-2).toNat=1 by omega) with e | e <;> rw [e] <;> rfl
theorem getD_rep {α:Type} {n i:Nat} (a d:α) (h:i<n):(List.replicate n a).getD i d=a:=by
 rw [List.getD_eq_getElem?_getD,List.getElem?_replicate,if_pos h];rfl
theorem nuls_get {n i:Nat} (h:i<n):(nuls n).getD i sct0=nul (i:Int):=by
 unfold nuls
 rw [List.getD_eq_getElem?_getD,List.getElem?_map,List.getElem?_range h];rfl
theorem newS_view {g:Geo} {pw:Pow} (hg:GeoOk g) {i a:Int} (hi:0≤i∧i<g.d) (ha:0≤a∧a<g.c*g.s):viewS (newS g pw) i a=some (sec []):=by
 unfold viewS newS
 simp only
 rw [getD_rep _ _ (by omega)]
 unfold cellD newD
 simp only
 rw [nuls_get (by omega),show ((a.toNat:Nat):Int)=a by omega]
 unfold nul
 rw [if_neg (by decide),if_neg (show ¬ (true=false) by decide),if_pos rfl]
theorem newS_dead (g:Geo) (pw:Pow) (i:Int):deadS (newS g pw) i=false:=by
 unfold deadS newS
 simp only
 by_cases h:i.toNat<g.d.toNat
 ·rw [getD_rep _ _ h];rfl
 ·rw [List.getD_eq_getElem?_getD,List.getElem?_replicate,if_neg h];rfl
theorem newS_key (g:Geo) (pw:Pow) (i:Nat):((newS g pw).ds.getD i dsk0).key=0:=by
 unfold newS
 simp only
 by_cases h:i<g.d.toNat
 ·rw [getD_rep _ _ h];rfl
 ·rw [List.getD_eq_getElem?_getD,List.getElem?_replicate,if_neg h];rfl
theorem newS_ok {g:Geo} (hg:GeoOk g) (pw:Pow):SsOk g (newS g pw):=by
 have hd:=hg.d
 have hsz:=hg.size
 refine ⟨hg,by show ((List.replicate _ _).length:Int)=_;rw [List.length_replicate];omega,fun D hD=>?_,fun D hD=>?_⟩
 ·rw [(List.mem_replicate.1 hD).2]
  show ((nuls _).length:Int)=_
  rw [len_nuls];omega
 ·rw [(List.mem_replicate.1 hD).2]
  refine ⟨fun x hx=>?_,Int.le_refl 0,(by show (0:Int)≤4294967295;decide)⟩
  have hx:x∈nuls _:=hx
  unfold nuls at hx
  obtain ⟨k,_,rfl⟩:=List.mem_map.1 hx
  exact ⟨sec0_ok,(sumS_ok _ _).1,(sumS_ok _ _).2⟩
theorem newS_inv {g:Geo} (hg:GeoOk g) (pw:Pow):Inv g (newS g pw) now0:=by
 intro st off hst hof k hk f hv
 obtain ⟨pk1,pk2⟩:=plcP_ok hg hst hof (k:Int)
 rw [newS_view hg pk1 pk2] at hv
 rw [← Option.some.inj hv]
 exact full_zero hg hk
theorem lost_two {g:Geo} (hg:GeoOk g) {s:SS} {st off:Int} (hst:0≤st∧st<g.s) (hof:0≤off∧off<g.c) (i j:Int) (h:∀ k:Nat,k<g.d.toNat→viewS s (plcP g st off (k:Int)).dk (plcP g st off (k:Int)).at_=none→(plcP g st off (k:Int)).dk=i∨(plcP g st off (k:Int)).dk=j):lostN (colsS g s st off)≤2:=by
 have hd:=hg.d
 have hl:=goneL_len (colsS g s st off)
 have idx:∀ x∈goneL (colsS g s st off),∃ n:Nat,x=(n:Int)∧n<g.d.toNat∧((plcP g st off x).dk=i∨(plcP g st off x).dk=j):=fun x hx=>by
  obtain ⟨n,h1,h2,h3⟩:=goneI_lt (colsS g s st off) _ x hx
  rw [len_colsS] at h2
  rw [colsS_view h2] at h3
  exact ⟨n,h1,h2,by rw [h1];exact h n h2 (Option.some.inj h3)⟩
 have hs:=goneI_sorted (colsS g s st off) (colsS g s st off).length
 have hs:(goneL (colsS g s st off)).Pairwise (·<·):=hs
 match hG:goneL (colsS g s st off) with
 | []=>rw [hG] at hl;simp at hl;omega
 | [x]=>rw [hG] at hl;simp at hl;omega
 | [x,y]=>rw [hG] at hl;simp at hl;omega
 | x::y::z::l =>
  exfalso
  rw [hG] at hs idx
  have hxy:x<y∧x<z∧y<z:=by
   simp only [List.pairwise_cons,List.mem_cons] at hs
   exact ⟨hs.1 y (Or.inl rfl),hs.1 z (Or.inr (Or.inl rfl)),hs.2.1 z (Or.inl rfl)⟩
  obtain ⟨n1,e1,l1,d1⟩:=idx x (by simp)
  obtain ⟨n2,e2,l2,d2⟩:=idx y (by simp)
  obtain ⟨n3,e3,l3,d3⟩:=idx z (by simp)
  have ne:∀ {a b:Int},0≤a∧a<g.d→0≤b∧b<g.d→a≠b→(plcP g st off a).dk≠(plcP g st off b).dk:=fun {a b} ha hb hab he=>hab (plcP_inj hg hst hof hst hof ha hb he rfl).2.2
  have n12:=ne (a:=x) (b:=y) (by omega) (by omega) (by omega)
  have n13:=ne (a:=x) (b:=z) (by omega) (by omega) (by omega)
  have n23:=ne (a:=y) (b:=z) (by omega) (by omega) (by omega)
  omega
def putV:List PutS→(Int→Int→Option Sec)→Int→Int→Option Sec
 | [],v=>v
 | x::xs,v=>putV xs fun i a=>if i=x.plc.dk∧a=x.plc.at_ then some x.cel.data else v i a
theorem putV_congr:∀ (xs:List PutS) {v u:Int→Int→Option Sec} {i a:Int},v i a=u i a→putV xs v i a=putV xs u i a
 | [],_,_,_,_,h=>h
 | x::xs,v,u,i,a,h=>putV_congr xs (by simp only [h])
theorem steps_wrap {p:Pow} (h:Lit0 p) (h0:0≤p.steps) (h1:p.steps<4611686018427387904):(stepP p).2.steps=p.steps+1:=by
 unfold stepP
 rw [if_pos h.1,if_pos h.2]
 exact wrapI (by omega) (by omega)
def Sealed (g:Geo) (s:SS) (x:PutS):Prop:=PutOk g x∧SecOk x.cel.data∧x.cel.sum=sumS x.plc.at_ x.cel.data∧deadS s x.plc.dk=false
theorem applyL_ok {g:Geo} {ep:Int}:∀ (xs:List PutS) (s:SS),SsOk g s→Lit0 s.pw→0≤s.pw.steps→s.pw.steps+xs.length<4611686018427387904→(∀ x∈xs,Sealed g s x)→(∀ i:Nat,(s.ds.getD i dsk0).key≤ep) →
  ∃ s',applyL ep xs s=(0,s')∧SsOk g s'∧Lit0 s'.pw∧s'.pw.steps=s.pw.steps+xs.length∧(∀ i,deadS s' i=deadS s i)∧(∀ i:Nat,(s'.ds.getD i dsk0).key=(s.ds.getD i dsk0).key) ∧
   ∀ i a,0≤i→0≤a→viewS s' i a=putV xs (viewS s) i a
 | [],s,hs,hl,_,_,_,_=>⟨s,rfl,hs,hl,by simp,fun _=>rfl,fun _=>rfl,fun _ _ _ _=>rfl⟩
 | x::xs,s,hs,hl,h0,h1,hx,hep=>by
  have h1':s.pw.steps+((xs.length+1:Nat):Int)<4611686018427387904:=h1
  obtain ⟨x1,x2,x3,x4⟩:=hx x (by simp)
  obtain ⟨a1,a2,a3,a4,a5,a6⟩:=apply1_ok hs x1 hl x4 (hep _) x2 x3
  have hst:applyL ep (x::xs) s=applyL ep xs (apply1 s x ep).2:=by
   show (if _∧_ then _ else _)=_
   rw [if_neg (by rw [a1];simp)]
  rw [hst]
  generalize apply1 s x ep=r at *
  have hsw:=steps_wrap hl h0 (by omega)
  obtain ⟨s',b1,b2,b3,b4,b5,b6,b7⟩:=applyL_ok xs r.2 a2 (by rw [a3];exact (lit_step hl).2) (by rw [a3,hsw];omega) (by rw [a3,hsw];omega) (fun y hy=>by
   obtain ⟨y1,y2,y3,y4⟩:=hx y (by simp [hy])
   exact ⟨y1,y2,y3,by rw [a4];exact y4⟩) (fun i=>by rw [a5];exact hep i)
  refine ⟨s',b1,b2,b3,?_,fun i=>by rw [b5,a4],fun i=>by rw [b6,a5],fun i a hi ha=>?_⟩
  ·rw [b4,a3,hsw]
   show _=s.pw.steps+((xs.length+1:Nat):Int)
   omega
  ·rw [b7 i a hi ha]
   exact putV_congr xs (a6 i a hi ha)
theorem applyS_ok {g:Geo} {ep:Int} {xs:List PutS} {s:SS} (hs:SsOk g s) (hl:Lit0 s.pw) (h0:0≤s.pw.steps) (h1:s.pw.steps+xs.length<4611686018427387904) (hx:∀ x∈xs,Sealed g s x) (hep:∀ i:Nat,(s.ds.getD i dsk0).key≤ep) :
  ∃ s',applyS g s xs ep=(0,s')∧SsOk g s'∧Lit0 s'.pw∧s'.pw.steps=s.pw.steps+xs.length∧(∀ i,deadS s' i=deadS s i)∧(∀ i:Nat,(s'.ds.getD i dsk0).key=(s.ds.getD i dsk0).key) ∧
   ∀ i a,0≤i→0≤a→viewS s' i a=putV xs (viewS s) i a:=by
 unfold applyS
 rw [if_pos fun x hx'=>(hx x hx').1]
 exact applyL_ok xs s hs hl h0 h1 hx hep
def sealP (x:PutS):PutS:=⟨x.plc,⟨x.cel.data,sumS x.plc.at_ x.cel.data⟩⟩
instance:DecidableEq Plc:=fun a b=>by
 cases a;cases b
 simp only [Plc.mk.injEq]
 infer_instance
end Go.Proofs
namespace Go.Proofs
open Go.Ev
set_option maxRecDepth 100000
def F_slices_Grow_Record (sp:Option Addr) (sl:Nat) (sc:Nat) (n:Int) (w:World) (R:Value→World→Prop):Prop :=
 Cb (decide (n<0)) (False) (Cb (decide (IntKind.wrap .i64 (n-(IntKind.wrap .i64 (((sc:Nat):Int)-((sl:Nat):Int))))>0)) (Slc sl sc none (some ((sc:Nat) :
 Int)) none fun l h m=>DoV Tryz.prog (Builtin.append_ #[113,3] 113 #[.slice (slcP 19 l m sp) (h-l) (m-l),.int .i64 (IntKind.wrap .i64 (n-(IntKind.wrap .i64 (((sc
 : Nat):Int)-((sl:Nat):Int)))))]) w fun v w=>OpS v fun p l1 c=>Slc l1 c none (some ((sl:Nat):Int)) none fun l2 h1 m1=>Ret [] (R (.slice (slcP 19 l2 m1 p)
 (h1-l2) (m1-l2)) w)) (Ret [] (R (.slice sp sl sc) w)))
theorem C_slices_Grow_Record {sp:Option Addr} {sl:Nat} {sc:Nat} {n:Int} {w:World} {R:Value→World→Prop} (h:F_slices_Grow_Record sp sl sc n w R):zB Tryz.prog 249 #[.slice sp sl sc,.int .i64 n] w R:=by
 exact zE (args:=[.slice sp sl sc,.int .i64 n]) (mkAnn [] [] [] [] []) zD Tryz.func249 rfl rfl (by kernel_rfl) h
def F_slices_Concat_Record (slicesp:Option Addr) (slicesl:Nat) (slicesc:Nat) (w:World) (R:Value→World→Prop):Prop :=
 LoopC (σ:=Int×Int×Unit) (fun _ s1 w K1=>Cb (decide (s1.2.1<((slicesl:Nat):Int))) (IdxS slicesp slicesl s1.2.1 1 fun b o=>LdV b o (At w) fun v=>OpS v fun
 p l c=>Cb (decide (IntKind.wrap .i64 (s1.1+((l:Nat):Int))<0)) (False) (K1 (IntKind.wrap .i64 (s1.1+((l:Nat):Int)),(IntKind.wrap .i64 (s1.2.1+1),()))
 w)) (zB Tryz.prog 249 #[.slice none 0 0,.int .i64 s1.1] w fun v1 w=>OpS v1 fun p1 l1 c1=>LoopC (σ:=(Option Addr×Nat×Nat)×Int×Unit) (fun _ s2 w K2=>Cb
 (decide (s2.2.1<((slicesl:Nat):Int))) (IdxS slicesp slicesl s2.2.1 1 fun b1 o1=>LdV b1 o1 (At w) fun v2=>OpS v2 fun p2 l2 c2=>DoV Tryz.prog (Builtin.append_
 #[113,113] 113 #[.slice s2.1.1 s2.1.2.1 s2.1.2.2,.slice p2 l2 c2]) w fun v3 w=>OpS v3 fun p3 l3 c3=>K2 ((p3,l3,c3),(IntKind.wrap .i64 (s2.2.1+1),())) w) (Ret
 [] (R (.slice s2.1.1 s2.1.2.1 s2.1.2.2) w))) ((p1,l1,c1),(0,())) w)) (0,(0,())) w
theorem C_slices_Concat_Record {slicesp:Option Addr} {slicesl:Nat} {slicesc:Nat} {w:World} {R:Value→World→Prop} (h:F_slices_Concat_Record slicesp slicesl slicesc w R):zB Tryz.prog 201 #[.slice slicesp slicesl slicesc] w R:=by
 exact zE (args:=[.slice slicesp slicesl slicesc]) (mkAnn [(3,[(3,(.int .i64)),(11,(.int .i64))]),(11,[(6,.slice),(27,(.int .i64))])] [] [] [] []) zD Tryz.func201 rfl rfl (by kernel_rfl) h
def F_bits_Len64 (x:Int) (w:World) (R:Value→World→Prop):Prop :=
 Cb (decide (x≥4294967296)) (Req (0≤(32:Int)) (Cb (decide (ishr .u64 x 32≥65536)) (Req (0≤(16:Int)) (Cb (decide (ishr .u64 (ishr .u64 x 32) 16≥256)) (Req (0 ≤
 (8:Int)) (StrAt (ByteArray.mk #[0,1,2,2,3,3,3,3,4,4,4,4,4,4,4,4,5,5,5,5,5,5,5,5,5,5,5,5,5,5,5,5,6,6,6,6,6,6,6,6,6,6,6,6,6,6,
 6,6,6,6,6,6,6,6,6,6,6,6,6,6,6,6,6,6,7,7,7,7,7,7,7,7,7,7,7,7,7,7,7,7,7,7,7,7,7,7,7,7,7,7,7,7,7,7,7,7,7,7,7,7,7,7,7,
 7,7,7,7,7,7,7,7,7,7,7,7,7,7,7,7,7,7,7,7,7,7,7,7,7,8,8,8,8,8,8,8,8,8,8,8,8,8,8,8,8,8,8,8,8,8,8,8,8,8,8,8,8,8,8,8,8,
 8,8,8,8,8,8,8,8,8,8,8,8,8,8,8,8,8,8,8,8,8,8,8,8,8,8,8,8,8,8,8,8,8,8,8,8,8,8,8,8,8,8,8,8,8,8,8,8,8,8,8,8,8,8,8,8,8,
 8,8,8,8,8,8,8,8,8,8,8,8,8,8,8,8,8,8,8,8,8,8,8,8,8,8,8,8,8,8,8,8,8,8,8,8,8,8,8]) (IntKind.wrap .u8 (ishr .u64 (ishr .u64 (ishr .u64 x
 32) 16) 8)) fun c=>Ret [] (R (.int .i64 (IntKind.wrap .i64 ((IntKind.wrap .i64 ((IntKind.wrap .i64 (32+16))+8))+(IntKind.wrap .i64 c)))) w))) (StrAt (ByteArray.mk
 #[0,1,2,2,3,3,3,3,4,4,4,4,4,4,4,4,5,5,5,5,5,5,5,5,5,5,5,5,5,5,5,5,6,6,6,6,6,6,6,6,6,6,6,6,6,6,6,6,6,6,6,6,6,6,6,6,
 6,6,6,6,6,6,6,6,7,7,7,7,7,7,7,7,7,7,7,7,7,7,7,7,7,7,7,7,7,7,7,7,7,7,7,7,7,7,7,7,7,7,7,7,7,7,7,7,7,7,7,7,7,7,7,7,7,
 7,7,7,7,7,7,7,7,7,7,7,7,7,7,7,8,8,8,8,8,8,8,8,8,8,8,8,8,8,8,8,8,8,8,8,8,8,8,8,8,8,8,8,8,8,8,8,8,8,8,8,8,8,8,8,8,8,
 8,8,8,8,8,8,8,8,8,8,8,8,8,8,8,8,8,8,8,8,8,8,8,8,8,8,8,8,8,8,8,8,8,8,8,8,8,8,8,8,8,8,8,8,8,8,8,8,8,8,8,8,8,8,8,8,8,
 8,8,8,8,8,8,8,8,8,8,8,8,8,8,8,8,8,8,8,8,8,8,8,8,8,8,8,8,8]) (IntKind.wrap .u8 (ishr .u64 (ishr .u64 x 32) 16)) fun c1=>Ret [] (R (.int .i64
 (IntKind.wrap .i64 ((IntKind.wrap .i64 (32+16))+(IntKind.wrap .i64 c1)))) w)))) (Cb (decide (ishr .u64 x 32≥256)) (Req (0≤(8:Int)) (StrAt (ByteArray.mk #[0,1,
 2,2,3,3,3,3,4,4,4,4,4,4,4,4,5,5,5,5,5,5,5,5,5,5,5,5,5,5,5,5,6,6,6,6,6,6,6,6,6,6,6,6,6,6,6,6,6,6,6,6,6,6,6,6,6,6,6,
 6,6,6,6,6,7,7,7,7,7,7,7,7,7,7,7,7,7,7,7,7,7,7,7,7,7,7,7,7,7,7,7,7,7,7,7,7,7,7,7,7,7,7,7,7,7,7,7,7,7,7,7,7,7,7,7,7,
 7,7,7,7,7,7,7,7,7,7,7,7,8,8,8,8,8,8,8,8,8,8,8,8,8,8,8,8,8,8,8,8,8,8,8,8,8,8,8,8,8,8,8,8,8,8,8,8,8,8,8,8,8,8,8,8,8,
 8,8,8,8,8,8,8,8,8,8,8,8,8,8,8,8,8,8,8,8,8,8,8,8,8,8,8,8,8,8,8,8,8,8,8,8,8,8,8,8,8,8,8,8,8,8,8,8,8,8,8,8,8,8,8,8,8,
 8,8,8,8,8,8,8,8,8,8,8,8,8,8,8,8,8,8,8,8,8,8,8,8,8,8]) (IntKind.wrap .u8 (ishr .u64 (ishr .u64 x 32) 8)) fun c2=>Ret [] (R (.int .i64
 (IntKind.wrap .i64 ((IntKind.wrap .i64 (32+8))+(IntKind.wrap .i64 c2)))) w))) (StrAt (ByteArray.mk #[0,1,2,2,3,3,3,3,4,4,4,4,4,4,4,4,5,5,5,5,5,5,
 5,5,5,5,5,5,5,5,5,5,6,6,6,6,6,6,6,6,6,6,6,6,6,6,6,6,6,6,6,6,6,6,6,6,6,6,6,6,6,6,6,6,7,7,7,7,7,7,7,7,7,7,7,7,7,7,7,
 7,7,7,7,7,7,7,7,7,7,7,7,7,7,7,7,7,7,7,7,7,7,7,7,7,7,7,7,7,7,7,7,7,7,7,7,7,7,7,7,7,7,7,7,7,7,7,7,7,8,8,8,8,8,8,8,8,
 8,8,8,8,8,8,8,8,8,8,8,8,8,8,8,8,8,8,8,8,8,8,8,8,8,8,8,8,8,8,8,8,8,8,8,8,8,8,8,8,8,8,8,8,8,8,8,8,8,8,8,8,8,8,8,8,8,
 8,8,8,8,8,8,8,8,8,8,8,8,8,8,8,8,8,8,8,8,8,8,8,8,8,8,8,8,8,8,8,8,8,8,8,8,8,8,8,8,8,8,8,8,8,8,8,8,8,8,8,8,8,8,8,8,8,
 8,8,8,8,8,8]) (IntKind.wrap .u8 (ishr .u64 x 32)) fun c3=>Ret [] (R (.int .i64 (IntKind.wrap .i64 (32+(IntKind.wrap .i64 c3)))) w))))) (Cb (decide (x≥65536))
 (Req (0≤(16:Int)) (Cb (decide (ishr .u64 x 16≥256)) (Req (0≤(8:Int)) (StrAt (ByteArray.mk #[0,1,2,2,3,3,3,3,4,4,4,4,4,4,4,4,5,5,5,5,5,5,5,
 5,5,5,5,5,5,5,5,5,6,6,6,6,6,6,6,6,6,6,6,6,6,6,6,6,6,6,6,6,6,6,6,6,6,6,6,6,6,6,6,6,7,7,7,7,7,7,7,7,7,7,7,7,7,7,7,7,
 7,7,7,7,7,7,7,7,7,7,7,7,7,7,7,7,7,7,7,7,7,7,7,7,7,7,7,7,7,7,7,7,7,7,7,7,7,7,7,7,7,7,7,7,7,7,7,7,8,8,8,8,8,8,8,8,8,
 8,8,8,8,8,8,8,8,8,8,8,8,8,8,8,8,8,8,8,8,8,8,8,8,8,8,8,8,8,8,8,8,8,8,8,8,8,8,8,8,8,8,8,8,8,8,8,8,8,8,8,8,8,8,8,8,8,
 8,8,8,8,8,8,8,8,8,8,8,8,8,8,8,8,8,8,8,8,8,8,8,8,8,8,8,8,8,8,8,8,8,8,8,8,8,8,8,8,8,8,8,8,8,8,8,8,8,8,8,8,8,8,8,8,8,
 8,8,8,8,8]) (IntKind.wrap .u8 (ishr .u64 (ishr .u64 x 16) 8)) fun c4=>Ret [] (R (.int .i64 (IntKind.wrap .i64 ((IntKind.wrap .i64 ((IntKind.wrap .i64 (0+16))+8))
 + (IntKind.wrap .i64 c4)))) w))) (StrAt (ByteArray.mk #[0,1,2,2,3,3,3,3,4,4,4,4,4,4,4,4,5,5,5,5,5,5,5,5,5,5,5,5,5,5,5,5,6,6,6,6,6,6,
 6,6,6,6,6,6,6,6,6,6,6,6,6,6,6,6,6,6,6,6,6,6,6,6,6,6,7,7,7,7,7,7,7,7,7,7,7,7,7,7,7,7,7,7,7,7,7,7,7,7,7,7,7,7,7,7,7,
 7,7,7,7,7,7,7,7,7,7,7,7,7,7,7,7,7,7,7,7,7,7,7,7,7,7,7,7,7,7,7,7,7,8,8,8,8,8,8,8,8,8,8,8,8,8,8,8,8,8,8,8,8,8,8,8,8,
 8,8,8,8,8,8,8,8,8,8,8,8,8,8,8,8,8,8,8,8,8,8,8,8,8,8,8,8,8,8,8,8,8,8,8,8,8,8,8,8,8,8,8,8,8,8,8,8,8,8,8,8,8,8,8,8,8,
 8,8,8,8,8,8,8,8,8,8,8,8,8,8,8,8,8,8,8,8,8,8,8,8,8,8,8,8,8,8,8,8,8,8,8,8,8,8,8,8,8,8,8,8,8,8,8]) (IntKind.wrap .u8 (ishr .u64
 x 16)) fun c5=>Ret [] (R (.int .i64 (IntKind.wrap .i64 ((IntKind.wrap .i64 (0+16))+(IntKind.wrap .i64 c5)))) w)))) (Cb (decide (x≥256)) (Req (0≤(8:Int)) (StrAt
 (ByteArray.mk #[0,1,2,2,3,3,3,3,4,4,4,4,4,4,4,4,5,5,5,5,5,5,5,5,5,5,5,5,5,5,5,5,6,6,6,6,6,6,6,6,6,6,6,6,6,6,6,6,6,6,6,6,
 6,6,6,6,6,6,6,6,6,6,6,6,7,7,7,7,7,7,7,7,7,7,7,7,7,7,7,7,7,7,7,7,7,7,7,7,7,7,7,7,7,7,7,7,7,7,7,7,7,7,7,7,7,7,7,7,7,
 7,7,7,7,7,7,7,7,7,7,7,7,7,7,7,7,7,7,7,8,8,8,8,8,8,8,8,8,8,8,8,8,8,8,8,8,8,8,8,8,8,8,8,8,8,8,8,8,8,8,8,8,8,8,8,8,8,
 8,8,8,8,8,8,8,8,8,8,8,8,8,8,8,8,8,8,8,8,8,8,8,8,8,8,8,8,8,8,8,8,8,8,8,8,8,8,8,8,8,8,8,8,8,8,8,8,8,8,8,8,8,8,8,8,8,
 8,8,8,8,8,8,8,8,8,8,8,8,8,8,8,8,8,8,8,8,8,8,8,8,8,8,8,8,8,8,8,8,8]) (IntKind.wrap .u8 (ishr .u64 x 8)) fun c6=>Ret [] (R (.int .i64
 (IntKind.wrap .i64 ((IntKind.wrap .i64 (0+8))+(IntKind.wrap .i64 c6)))) w))) (StrAt (ByteArray.mk #[0,1,2,2,3,3,3,3,4,4,4,4,4,4,4,4,5,5,5,5,5,5,
 5,5,5,5,5,5,5,5,5,5,6,6,6,6,6,6,6,6,6,6,6,6,6,6,6,6,6,6,6,6,6,6,6,6,6,6,6,6,6,6,6,6,7,7,7,7,7,7,7,7,7,7,7,7,7,7,7,
 7,7,7,7,7,7,7,7,7,7,7,7,7,7,7,7,7,7,7,7,7,7,7,7,7,7,7,7,7,7,7,7,7,7,7,7,7,7,7,7,7,7,7,7,7,7,7,7,7,8,8,8,8,8,8,8,8,
 8,8,8,8,8,8,8,8,8,8,8,8,8,8,8,8,8,8,8,8,8,8,8,8,8,8,8,8,8,8,8,8,8,8,8,8,8,8,8,8,8,8,8,8,8,8,8,8,8,8,8,8,8,8,8,8,8,
 8,8,8,8,8,8,8,8,8,8,8,8,8,8,8,8,8,8,8,8,8,8,8,8,8,8,8,8,8,8,8,8,8,8,8,8,8,8,8,8,8,8,8,8,8,8,8,8,8,8,8,8,8,8,8,8,8,
 8,8,8,8,8,8]) (IntKind.wrap .u8 x) fun c7=>Ret [] (R (.int .i64 (IntKind.wrap .i64 (0+(IntKind.wrap .i64 c7)))) w))))
theorem C_bits_Len64 {x:Int} {w:World} {R:Value→World→Prop} (h:F_bits_Len64 x w R):zB Tryz.prog 285 #[.int .u64 x] w R:=by
 exact zE (args:=[.int .u64 x]) (mkAnn [] [] [] [] []) zD Tryz.func285 rfl rfl (by kernel_rfl) h
def F_bits_Len (x:Int) (w:World) (R:Value→World→Prop):Prop :=
 zB Tryz.prog 285 #[.int .u64 x] w fun v w=>OpI .i64 v fun n=>Ret [] (R (.int .i64 n) w)
theorem C_bits_Len {x:Int} {w:World} {R:Value→World→Prop} (h:F_bits_Len x w R):zB Tryz.prog 251 #[.int .u64 x] w R:=by
 exact zE (args:=[.int .u64 x]) (mkAnn [] [] [] [] []) zD Tryz.func251 rfl rfl (by kernel_rfl) h
def F_slices_insertionSortOrdered_uint64 (datap:Option Addr) (datal:Nat) (datac:Nat) (a:Int) (b:Int) (w:World) (R:Value→World→Prop):Prop :=
 LoopC (σ:=Int×Unit) (fun _ s1 w K1=>Cb (decide (s1.1<b)) (LoopC (σ:=Int×Unit) (fun _ s2 w K2=>Cb (decide (s2.1>a)) (IdxS datap datal s2.1 1 fun b1 o=>LdV
 b1 o (At w) fun v=>OpI .u64 v fun n=>IdxS datap datal (IntKind.wrap .i64 (s2.1-1)) 1 fun b2 o1=>LdV b2 o1 (At w) fun v1=>OpI .u64 v1 fun n1=>CallQ Tryz.prog
 281 #[.int .u64 n,.int .u64 n1] (At w) fun v2=>OpB v2 fun g=>Drw w fun w=>Cb g (HeldR w fun S w=>IdxS datap datal (IntKind.wrap .i64 (s2.1-1)) 1 fun b3 o2 =>
 LdV b3 o2 (At w) fun v3=>OpI .u64 v3 fun n2=>IdxS datap datal s2.1 1 fun b4 o3=>LdV b4 o3 (At w) fun v4=>OpI .u64 v4 fun n3=>IdxS datap datal s2.1 1 fun b5 o4 =>
 StV b5 o4 (.int .u64 n2) w fun w=>Hld (S w) (IdxS datap datal (IntKind.wrap .i64 (s2.1-1)) 1 fun b6 o5=>StV b6 o5 (.int .u64 n3) w fun w=>Hld (S w) (K2
 (IntKind.wrap .i64 (s2.1-1),()) w))) (K1 (IntKind.wrap .i64 (s1.1+1),()) w)) (Drw w fun w=>K1 (IntKind.wrap .i64 (s1.1+1),()) w)) (s1.1,()) w) (Ret [] (R
 (.tuple #[]) w))) (IntKind.wrap .i64 (a+1),()) w
theorem C_slices_insertionSortOrdered_uint64 {datap:Option Addr} {datal:Nat} {datac:Nat} {a:Int} {b:Int} {w:World} {R:Value→World→Prop} (h:F_slices_insertionSortOrdered_uint64 datap datal datac a b w R):zB Tryz.prog 275 #[.slice datap datal datac,.int .i64 a,.int .i64 b] w R:=by
 exact zE (args:=[.slice datap datal datac,.int .i64 a,.int .i64 b]) (mkAnn [(1,[(6,(.int .i64))]),(4,[(7,(.int .i64))])] [] [] [] []) zD Tryz.func275 rfl rfl (by kernel_rfl) h
def F_slices_pdqsortOrdered_uint64 (datap:Option Addr) (datal:Nat) (datac:Nat) (a:Int) (b:Int) (limit:Int) (w:World) (R:Value→World→Prop):Prop :=
 LoopC (σ:=Int×Int×Int×Bool×Bool×Unit) (fun _ s1 w K1=>Cb (decide (IntKind.wrap .i64 (s1.2.1-s1.1)≤12)) (zB Tryz.prog 275 #[.slice datap datal datac,
 .int .i64 s1.1,.int .i64 s1.2.1] w fun v w=>Ret [] (R (.tuple #[]) w)) (Cb (s1.2.2.1==0) (zB Tryz.prog 276 #[.slice datap datal datac,.int .i64 s1.1,.int .i64
 s1.2.1] w fun v1 w=>Ret [] (R (.tuple #[]) w)) (Cb (!s1.2.2.2.1) (zB Tryz.prog 277 #[.slice datap datal datac,.int .i64 s1.1,.int .i64 s1.2.1] w fun v2 w=>zB
 Tryz.prog 278 #[.slice datap datal datac,.int .i64 s1.1,.int .i64 s1.2.1] w fun v3 w=>T2 v3 fun v4 v5=>OpI .i64 v4 fun n=>OpI .i64 v5 fun n1=>Cb (n1==2) (zB
 Tryz.prog 279 #[.slice datap datal datac,.int .i64 s1.1,.int .i64 s1.2.1] w fun v6 w=>Req (s1.2.2.2.1=s1.2.2.2.1) (Req ((cond s1.2.2.2.1 s1.2.2.2.2.1 false)=(cond
 s1.2.2.2.1 s1.2.2.2.2.1 false)) (Req ((cond s1.2.2.2.1 s1.2.2.2.2.1 false)=(cond s1.2.2.2.1 s1.2.2.2.2.1 false)) (Cb (cond (cond s1.2.2.2.1 s1.2.2.2.2.1 false) ((1 :
 Int)==1) false) (zB Tryz.prog 280 #[.slice datap datal datac,.int .i64 s1.1,.int .i64 s1.2.1] w fun v7 w=>OpB v7 fun g=>Cb g (Ret [] (R (.tuple #[]) w)) (Cb
 (decide (s1.1>0)) (IdxS datap datal (IntKind.wrap .i64 (s1.1-1)) 1 fun b1 o=>LdV b1 o (At w) fun v8=>OpI .u64 v8 fun n2=>IdxS datap datal (IntKind.wrap .i64
 ((IntKind.wrap .i64 (s1.2.1-1))-(IntKind.wrap .i64 (n-s1.1)))) 1 fun b2 o1=>LdV b2 o1 (At w) fun v9=>OpI .u64 v9 fun n3=>CallQ Tryz.prog 281 #[.int .u64 n2,
 .int .u64 n3] (At w) fun v10=>OpB v10 fun g1=>Drw w fun w=>Cb (!g1) (zB Tryz.prog 282 #[.slice datap datal datac,.int .i64 s1.1,.int .i64 s1.2.1,.int .i64
 (IntKind.wrap .i64 ((IntKind.wrap .i64 (s1.2.1-1))-(IntKind.wrap .i64 (n-s1.1))))] w fun v11 w=>OpI .i64 v11 fun n4=>K1 (n4,(s1.2.1,(IntKind.wrap .i64
 (s1.2.2.1-1),(s1.2.2.2.1,(s1.2.2.2.2.1,()))))) w) (zB Tryz.prog 283 #[.slice datap datal datac,.int .i64 s1.1,.int .i64 s1.2.1,.int .i64 (IntKind.wrap .i64
 ((IntKind.wrap .i64 (s1.2.1-1))-(IntKind.wrap .i64 (n-s1.1))))] w fun v12 w=>T2 v12 fun v13 v14=>OpI .i64 v13 fun n5=>OpB v14 fun g2=>Req ((8:Int)≠0) (Cb
 (decide (IntKind.wrap .i64 (n5-s1.1)<IntKind.wrap .i64 (s1.2.1-n5))) (zB Tryz.prog 250 #[.slice datap datal datac,.int .i64 s1.1,.int .i64 n5,.int .i64
 (IntKind.wrap .i64 (s1.2.2.1-1))] w fun v15 w=>K1 (IntKind.wrap .i64 (n5+1),(s1.2.1,(IntKind.wrap .i64 (s1.2.2.1-1),(decide (IntKind.wrap .i64 (n5-s1.1) ≥
 IntKind.wrap .i64 (Int.tdiv (IntKind.wrap .i64 (s1.2.1-s1.1)) 8)),(g2,()))))) w) (zB Tryz.prog 250 #[.slice datap datal datac,.int .i64 (IntKind.wrap .i64 (n5 +
 1)),.int .i64 s1.2.1,.int .i64 (IntKind.wrap .i64 (s1.2.2.1-1))] w fun v16 w=>K1 (s1.1,(n5,(IntKind.wrap .i64 (s1.2.2.1-1),(decide (IntKind.wrap .i64 (s1.2.1 -
 n5)≥IntKind.wrap .i64 (Int.tdiv (IntKind.wrap .i64 (s1.2.1-s1.1)) 8)),(g2,()))))) w)))) (Drw w fun w=>zB Tryz.prog 283 #[.slice datap datal datac,.int .i64
 s1.1,.int .i64 s1.2.1,.int .i64 (IntKind.wrap .i64 ((IntKind.wrap .i64 (s1.2.1-1))-(IntKind.wrap .i64 (n-s1.1))))] w fun v17 w=>T2 v17 fun v18 v19=>OpI .i64
 v18 fun n6=>OpB v19 fun g3=>Req ((8:Int)≠0) (Cb (decide (IntKind.wrap .i64 (n6-s1.1)<IntKind.wrap .i64 (s1.2.1-n6))) (zB Tryz.prog 250 #[.slice datap
 datal datac,.int .i64 s1.1,.int .i64 n6,.int .i64 (IntKind.wrap .i64 (s1.2.2.1-1))] w fun v20 w=>K1 (IntKind.wrap .i64 (n6+1),(s1.2.1,(IntKind.wrap .i64
 (s1.2.2.1-1),(decide (IntKind.wrap .i64 (n6-s1.1)≥IntKind.wrap .i64 (Int.tdiv (IntKind.wrap .i64 (s1.2.1-s1.1)) 8)),(g3,()))))) w) (zB Tryz.prog 250 #[.slice
 datap datal datac,.int .i64 (IntKind.wrap .i64 (n6+1)),.int .i64 s1.2.1,.int .i64 (IntKind.wrap .i64 (s1.2.2.1-1))] w fun v21 w=>K1 (s1.1,(n6,(IntKind.wrap .i64
 (s1.2.2.1-1),(decide (IntKind.wrap .i64 (s1.2.1-n6)≥IntKind.wrap .i64 (Int.tdiv (IntKind.wrap .i64 (s1.2.1-s1.1)) 8)),(g3,()))))) w))))) (Cb (decide (s1.1>0))
 (IdxS datap datal (IntKind.wrap .i64 (s1.1-1)) 1 fun b3 o2=>LdV b3 o2 (At w) fun v22=>OpI .u64 v22 fun n7=>IdxS datap datal (IntKind.wrap .i64 ((IntKind.wrap .i64
 (s1.2.1-1))-(IntKind.wrap .i64 (n-s1.1)))) 1 fun b4 o3=>LdV b4 o3 (At w) fun v23=>OpI .u64 v23 fun n8=>CallQ Tryz.prog 281 #[.int .u64 n7,.int .u64 n8] (At w)
 fun v24=>OpB v24 fun g4=>Drw w fun w=>Cb (!g4) (zB Tryz.prog 282 #[.slice datap datal datac,.int .i64 s1.1,.int .i64 s1.2.1,.int .i64 (IntKind.wrap .i64
 ((IntKind.wrap .i64 (s1.2.1-1))-(IntKind.wrap .i64 (n-s1.1))))] w fun v25 w=>OpI .i64 v25 fun n9=>K1 (n9,(s1.2.1,(IntKind.wrap .i64 (s1.2.2.1-1),
 (s1.2.2.2.1,(s1.2.2.2.2.1,()))))) w) (zB Tryz.prog 283 #[.slice datap datal datac,.int .i64 s1.1,.int .i64 s1.2.1,.int .i64 (IntKind.wrap .i64 ((IntKind.wrap .i64
 (s1.2.1-1))-(IntKind.wrap .i64 (n-s1.1))))] w fun v26 w=>T2 v26 fun v27 v28=>OpI .i64 v27 fun n10=>OpB v28 fun g5=>Req ((8:Int)≠0) (Cb (decide
 (IntKind.wrap .i64 (n10-s1.1)<IntKind.wrap .i64 (s1.2.1-n10))) (zB Tryz.prog 250 #[.slice datap datal datac,.int .i64 s1.1,.int .i64 n10,.int .i64
 (IntKind.wrap .i64 (s1.2.2.1-1))] w fun v29 w=>K1 (IntKind.wrap .i64 (n10+1),(s1.2.1,(IntKind.wrap .i64 (s1.2.2.1-1),(decide (IntKind.wrap .i64 (n10-s1.1) ≥
 IntKind.wrap .i64 (Int.tdiv (IntKind.wrap .i64 (s1.2.1-s1.1)) 8)),(g5,()))))) w) (zB Tryz.prog 250 #[.slice datap datal datac,.int .i64 (IntKind.wrap .i64 (n10 +
 1)),.int .i64 s1.2.1,.int .i64 (IntKind.wrap .i64 (s1.2.2.1-1))] w fun v30 w=>K1 (s1.1,(n10,(IntKind.wrap .i64 (s1.2.2.1-1),(decide (IntKind.wrap .i64 (s1.2.1 -
 n10)≥IntKind.wrap .i64 (Int.tdiv (IntKind.wrap .i64 (s1.2.1-s1.1)) 8)),(g5,()))))) w)))) (Drw w fun w=>zB Tryz.prog 283 #[.slice datap datal datac,.int .i64
 s1.1,.int .i64 s1.2.1,.int .i64 (IntKind.wrap .i64 ((IntKind.wrap .i64 (s1.2.1-1))-(IntKind.wrap .i64 (n-s1.1))))] w fun v31 w=>T2 v31 fun v32 v33=>OpI .i64
 v32 fun n11=>OpB v33 fun g6=>Req ((8:Int)≠0) (Cb (decide (IntKind.wrap .i64 (n11-s1.1)<IntKind.wrap .i64 (s1.2.1-n11))) (zB Tryz.prog 250 #[.slice datap
 datal datac,.int .i64 s1.1,.int .i64 n11,.int .i64 (IntKind.wrap .i64 (s1.2.2.1-1))] w fun v34 w=>K1 (IntKind.wrap .i64 (n11+1),(s1.2.1,(IntKind.wrap .i64
 (s1.2.2.1-1),(decide (IntKind.wrap .i64 (n11-s1.1)≥IntKind.wrap .i64 (Int.tdiv (IntKind.wrap .i64 (s1.2.1-s1.1)) 8)),(g6,()))))) w) (zB Tryz.prog 250
 #[.slice datap datal datac,.int .i64 (IntKind.wrap .i64 (n11+1)),.int .i64 s1.2.1,.int .i64 (IntKind.wrap .i64 (s1.2.2.1-1))] w fun v35 w=>K1 (s1.1,(n11,
 (IntKind.wrap .i64 (s1.2.2.1-1),(decide (IntKind.wrap .i64 (s1.2.1-n11)≥IntKind.wrap .i64 (Int.tdiv (IntKind.wrap .i64 (s1.2.1-s1.1)) 8)),(g6,()))))) w))))))))
 (Req (s1.2.2.2.1=s1.2.2.2.1) (Req ((cond s1.2.2.2.1 s1.2.2.2.2.1 false)=(cond s1.2.2.2.1 s1.2.2.2.2.1 false)) (Req ((cond s1.2.2.2.1 s1.2.2.2.2.1 false)=(cond
 s1.2.2.2.1 s1.2.2.2.2.1 false)) (Cb (cond (cond s1.2.2.2.1 s1.2.2.2.2.1 false) (n1==1) false) (zB Tryz.prog 280 #[.slice datap datal datac,.int .i64 s1.1,.int .i64
 s1.2.1] w fun v36 w=>OpB v36 fun g7=>Cb g7 (Ret [] (R (.tuple #[]) w)) (Cb (decide (s1.1>0)) (IdxS datap datal (IntKind.wrap .i64 (s1.1-1)) 1 fun b5 o4=>LdV b5
 o4 (At w) fun v37=>OpI .u64 v37 fun n12=>IdxS datap datal n 1 fun b6 o5=>LdV b6 o5 (At w) fun v38=>OpI .u64 v38 fun n13=>CallQ Tryz.prog 281 #[.int .u64 n12,
 .int .u64 n13] (At w) fun v39=>OpB v39 fun g8=>Drw w fun w=>Cb (!g8) (zB Tryz.prog 282 #[.slice datap datal datac,.int .i64 s1.1,.int .i64 s1.2.1,.int .i64 n]
 w fun v40 w=>OpI .i64 v40 fun n14=>K1 (n14,(s1.2.1,(IntKind.wrap .i64 (s1.2.2.1-1),(s1.2.2.2.1,(s1.2.2.2.2.1,()))))) w) (zB Tryz.prog 283 #[.slice datap
 datal datac,.int .i64 s1.1,.int .i64 s1.2.1,.int .i64 n] w fun v41 w=>T2 v41 fun v42 v43=>OpI .i64 v42 fun n15=>OpB v43 fun g9=>Req ((8:Int)≠0) (Cb (decide
 (IntKind.wrap .i64 (n15-s1.1)<IntKind.wrap .i64 (s1.2.1-n15))) (zB Tryz.prog 250 #[.slice datap datal datac,.int .i64 s1.1,.int .i64 n15,.int .i64
 (IntKind.wrap .i64 (s1.2.2.1-1))] w fun v44 w=>K1 (IntKind.wrap .i64 (n15+1),(s1.2.1,(IntKind.wrap .i64 (s1.2.2.1-1),(decide (IntKind.wrap .i64 (n15-s1.1) ≥
 IntKind.wrap .i64 (Int.tdiv (IntKind.wrap .i64 (s1.2.1-s1.1)) 8)),(g9,()))))) w) (zB Tryz.prog 250 #[.slice datap datal datac,.int .i64 (IntKind.wrap .i64 (n15 +
 1)),.int .i64 s1.2.1,.int .i64 (IntKind.wrap .i64 (s1.2.2.1-1))] w fun v45 w=>K1 (s1.1,(n15,(IntKind.wrap .i64 (s1.2.2.1-1),(decide (IntKind.wrap .i64 (s1.2.1 -
 n15)≥IntKind.wrap .i64 (Int.tdiv (IntKind.wrap .i64 (s1.2.1-s1.1)) 8)),(g9,()))))) w)))) (Drw w fun w=>zB Tryz.prog 283 #[.slice datap datal datac,.int .i64
 s1.1,.int .i64 s1.2.1,.int .i64 n] w fun v46 w=>T2 v46 fun v47 v48=>OpI .i64 v47 fun n16=>OpB v48 fun g10=>Req ((8:Int)≠0) (Cb (decide (IntKind.wrap .i64
 (n16-s1.1)<IntKind.wrap .i64 (s1.2.1-n16))) (zB Tryz.prog 250 #[.slice datap datal datac,.int .i64 s1.1,.int .i64 n16,.int .i64 (IntKind.wrap .i64 (s1.2.2.1 -
 1))] w fun v49 w=>K1 (IntKind.wrap .i64 (n16+1),(s1.2.1,(IntKind.wrap .i64 (s1.2.2.1-1),(decide (IntKind.wrap .i64 (n16-s1.1)≥IntKind.wrap .i64 (Int.tdiv
 (IntKind.wrap .i64 (s1.2.1-s1.1)) 8)),(g10,()))))) w) (zB Tryz.prog 250 #[.slice datap datal datac,.int .i64 (IntKind.wrap .i64 (n16+1)),.int .i64 s1.2.1,.int
 .i64 (IntKind.wrap .i64 (s1.2.2.1-1))] w fun v50 w=>K1 (s1.1,(n16,(IntKind.wrap .i64 (s1.2.2.1-1),(decide (IntKind.wrap .i64 (s1.2.1-n16)≥IntKind.wrap .i64
 (Int.tdiv (IntKind.wrap .i64 (s1.2.1-s1.1)) 8)),(g10,()))))) w))))) (Cb (decide (s1.1>0)) (IdxS datap datal (IntKind.wrap .i64 (s1.1-1)) 1 fun b7 o6=>LdV b7 o6
 (At w) fun v51=>OpI .u64 v51 fun n17=>IdxS datap datal n 1 fun b8 o7=>LdV b8 o7 (At w) fun v52=>OpI .u64 v52 fun n18=>CallQ Tryz.prog 281 #[.int .u64 n17,.int
 .u64 n18] (At w) fun v53=>OpB v53 fun g11=>Drw w fun w=>Cb (!g11) (zB Tryz.prog 282 #[.slice datap datal datac,.int .i64 s1.1,.int .i64 s1.2.1,.int .i64 n] w
 fun v54 w=>OpI .i64 v54 fun n19=>K1 (n19,(s1.2.1,(IntKind.wrap .i64 (s1.2.2.1-1),(s1.2.2.2.1,(s1.2.2.2.2.1,()))))) w) (zB Tryz.prog 283 #[.slice datap datal
 datac,.int .i64 s1.1,.int .i64 s1.2.1,.int .i64 n] w fun v55 w=>T2 v55 fun v56 v57=>OpI .i64 v56 fun n20=>OpB v57 fun g12=>Req ((8:Int)≠0) (Cb (decide
 (IntKind.wrap .i64 (n20-s1.1)<IntKind.wrap .i64 (s1.2.1-n20))) (zB Tryz.prog 250 #[.slice datap datal datac,.int .i64 s1.1,.int .i64 n20,.int .i64
 (IntKind.wrap .i64 (s1.2.2.1-1))] w fun v58 w=>K1 (IntKind.wrap .i64 (n20+1),(s1.2.1,(IntKind.wrap .i64 (s1.2.2.1-1),(decide (IntKind.wrap .i64 (n20-s1.1) ≥
 IntKind.wrap .i64 (Int.tdiv (IntKind.wrap .i64 (s1.2.1-s1.1)) 8)),(g12,()))))) w) (zB Tryz.prog 250 #[.slice datap datal datac,.int .i64 (IntKind.wrap .i64 (n20 +
 1)),.int .i64 s1.2.1,.int .i64 (IntKind.wrap .i64 (s1.2.2.1-1))] w fun v59 w=>K1 (s1.1,(n20,(IntKind.wrap .i64 (s1.2.2.1-1),(decide (IntKind.wrap .i64 (s1.2.1 -
 n20)≥IntKind.wrap .i64 (Int.tdiv (IntKind.wrap .i64 (s1.2.1-s1.1)) 8)),(g12,()))))) w)))) (Drw w fun w=>zB Tryz.prog 283 #[.slice datap datal datac,.int .i64
 s1.1,.int .i64 s1.2.1,.int .i64 n] w fun v60 w=>T2 v60 fun v61 v62=>OpI .i64 v61 fun n21=>OpB v62 fun g13=>Req ((8:Int)≠0) (Cb (decide (IntKind.wrap .i64
 (n21-s1.1)<IntKind.wrap .i64 (s1.2.1-n21))) (zB Tryz.prog 250 #[.slice datap datal datac,.int .i64 s1.1,.int .i64 n21,.int .i64 (IntKind.wrap .i64 (s1.2.2.1 -
 1))] w fun v63 w=>K1 (IntKind.wrap .i64 (n21+1),(s1.2.1,(IntKind.wrap .i64 (s1.2.2.1-1),(decide (IntKind.wrap .i64 (n21-s1.1)≥IntKind.wrap .i64 (Int.tdiv
 (IntKind.wrap .i64 (s1.2.1-s1.1)) 8)),(g13,()))))) w) (zB Tryz.prog 250 #[.slice datap datal datac,.int .i64 (IntKind.wrap .i64 (n21+1)),.int .i64 s1.2.1,.int
 .i64 (IntKind.wrap .i64 (s1.2.2.1-1))] w fun v64 w=>K1 (s1.1,(n21,(IntKind.wrap .i64 (s1.2.2.1-1),(decide (IntKind.wrap .i64 (s1.2.1-n21)≥IntKind.wrap .i64
 (Int.tdiv (IntKind.wrap .i64 (s1.2.1-s1.1)) 8)),(g13,()))))) w))))))))) (zB Tryz.prog 278 #[.slice datap datal datac,.int .i64 s1.1,.int .i64 s1.2.1] w fun v65 w
 => T2 v65 fun v66 v67=>OpI .i64 v66 fun n22=>OpI .i64 v67 fun n23=>Cb (n23==2) (zB Tryz.prog 279 #[.slice datap datal datac,.int .i64 s1.1,.int .i64 s1.2.1] w
 fun v68 w=>Req (s1.2.2.2.1=s1.2.2.2.1) (Req ((cond s1.2.2.2.1 s1.2.2.2.2.1 false)=(cond s1.2.2.2.1 s1.2.2.2.2.1 false)) (Req ((cond s1.2.2.2.1 s1.2.2.2.2.1 false) =
 (cond s1.2.2.2.1 s1.2.2.2.2.1 false)) (Cb (cond (cond s1.2.2.2.1 s1.2.2.2.2.1 false) ((1:Int)==1) false) (zB Tryz.prog 280 #[.slice datap datal datac,.int .i64
 s1.1,.int .i64 s1.2.1] w fun v69 w=>OpB v69 fun g14=>Cb g14 (Ret [] (R (.tuple #[]) w)) (Cb (decide (s1.1>0)) (IdxS datap datal (IntKind.wrap .i64 (s1.1-1)) 1 fun
 b9 o8=>LdV b9 o8 (At w) fun v70=>OpI .u64 v70 fun n24=>IdxS datap datal (IntKind.wrap .i64 ((IntKind.wrap .i64 (s1.2.1-1))-(IntKind.wrap .i64 (n22-s1.1)))) 1
 fun b10 o9=>LdV b10 o9 (At w) fun v71=>OpI .u64 v71 fun n25=>CallQ Tryz.prog 281 #[.int .u64 n24,.int .u64 n25] (At w) fun v72=>OpB v72 fun g15=>Drw w fun w =>
 Cb (!g15) (zB Tryz.prog 282 #[.slice datap datal datac,.int .i64 s1.1,.int .i64 s1.2.1,.int .i64 (IntKind.wrap .i64 ((IntKind.wrap .i64 (s1.2.1-1))-(IntKind.wrap
 .i64 (n22-s1.1))))] w fun v73 w=>OpI .i64 v73 fun n26=>K1 (n26,(s1.2.1,(s1.2.2.1,(s1.2.2.2.1,(s1.2.2.2.2.1,()))))) w) (zB Tryz.prog 283 #[.slice datap datal
 datac,.int .i64 s1.1,.int .i64 s1.2.1,.int .i64 (IntKind.wrap .i64 ((IntKind.wrap .i64 (s1.2.1-1))-(IntKind.wrap .i64 (n22-s1.1))))] w fun v74 w=>T2 v74 fun v75
 v76=>OpI .i64 v75 fun n27=>OpB v76 fun g16=>Req ((8:Int)≠0) (Cb (decide (IntKind.wrap .i64 (n27-s1.1)<IntKind.wrap .i64 (s1.2.1-n27))) (zB Tryz.prog 250
 #[.slice datap datal datac,.int .i64 s1.1,.int .i64 n27,.int .i64 s1.2.2.1] w fun v77 w=>K1 (IntKind.wrap .i64 (n27+1),(s1.2.1,(s1.2.2.1,(decide (IntKind.wrap
 .i64 (n27-s1.1)≥IntKind.wrap .i64 (Int.tdiv (IntKind.wrap .i64 (s1.2.1-s1.1)) 8)),(g16,()))))) w) (zB Tryz.prog 250 #[.slice datap datal datac,.int .i64
 (IntKind.wrap .i64 (n27+1)),.int .i64 s1.2.1,.int .i64 s1.2.2.1] w fun v78 w=>K1 (s1.1,(n27,(s1.2.2.1,(decide (IntKind.wrap .i64 (s1.2.1-n27)≥IntKind.wrap
 .i64 (Int.tdiv (IntKind.wrap .i64 (s1.2.1-s1.1)) 8)),(g16,()))))) w)))) (Drw w fun w=>zB Tryz.prog 283 #[.slice datap datal datac,.int .i64 s1.1,.int .i64
 s1.2.1,.int .i64 (IntKind.wrap .i64 ((IntKind.wrap .i64 (s1.2.1-1))-(IntKind.wrap .i64 (n22-s1.1))))] w fun v79 w=>T2 v79 fun v80 v81=>OpI .i64 v80 fun n28 =>
 OpB v81 fun g17=>Req ((8:Int)≠0) (Cb (decide (IntKind.wrap .i64 (n28-s1.1)<IntKind.wrap .i64 (s1.2.1-n28))) (zB Tryz.prog 250 #[.slice datap datal datac,
 .int .i64 s1.1,.int .i64 n28,.int .i64 s1.2.2.1] w fun v82 w=>K1 (IntKind.wrap .i64 (n28+1),(s1.2.1,(s1.2.2.1,(decide (IntKind.wrap .i64 (n28-s1.1) ≥
 IntKind.wrap .i64 (Int.tdiv (IntKind.wrap .i64 (s1.2.1-s1.1)) 8)),(g17,()))))) w) (zB Tryz.prog 250 #[.slice datap datal datac,.int .i64 (IntKind.wrap .i64 (n28 +
 1)),.int .i64 s1.2.1,.int .i64 s1.2.2.1] w fun v83 w=>K1 (s1.1,(n28,(s1.2.2.1,(decide (IntKind.wrap .i64 (s1.2.1-n28)≥IntKind.wrap .i64 (Int.tdiv (IntKind.wrap
 .i64 (s1.2.1-s1.1)) 8)),(g17,()))))) w))))) (Cb (decide (s1.1>0)) (IdxS datap datal (IntKind.wrap .i64 (s1.1-1)) 1 fun b11 o10=>LdV b11 o10 (At w) fun v84=>OpI
 .u64 v84 fun n29=>IdxS datap datal (IntKind.wrap .i64 ((IntKind.wrap .i64 (s1.2.1-1))-(IntKind.wrap .i64 (n22-s1.1)))) 1 fun b12 o11=>LdV b12 o11 (At w) fun v85
 => OpI .u64 v85 fun n30=>CallQ Tryz.prog 281 #[.int .u64 n29,.int .u64 n30] (At w) fun v86=>OpB v86 fun g18=>Drw w fun w=>Cb (!g18) (zB Tryz.prog 282 #[.slice
 datap datal datac,.int .i64 s1.1,.int .i64 s1.2.1,.int .i64 (IntKind.wrap .i64 ((IntKind.wrap .i64 (s1.2.1-1))-(IntKind.wrap .i64 (n22-s1.1))))] w fun v87 w =>
 OpI .i64 v87 fun n31=>K1 (n31,(s1.2.1,(s1.2.2.1,(s1.2.2.2.1,(s1.2.2.2.2.1,()))))) w) (zB Tryz.prog 283 #[.slice datap datal datac,.int .i64 s1.1,.int .i64
 s1.2.1,.int .i64 (IntKind.wrap .i64 ((IntKind.wrap .i64 (s1.2.1-1))-(IntKind.wrap .i64 (n22-s1.1))))] w fun v88 w=>T2 v88 fun v89 v90=>OpI .i64 v89 fun n32 =>
 OpB v90 fun g19=>Req ((8:Int)≠0) (Cb (decide (IntKind.wrap .i64 (n32-s1.1)<IntKind.wrap .i64 (s1.2.1-n32))) (zB Tryz.prog 250 #[.slice datap datal datac,
 .int .i64 s1.1,.int .i64 n32,.int .i64 s1.2.2.1] w fun v91 w=>K1 (IntKind.wrap .i64 (n32+1),(s1.2.1,(s1.2.2.1,(decide (IntKind.wrap .i64 (n32-s1.1) ≥
 IntKind.wrap .i64 (Int.tdiv (IntKind.wrap .i64 (s1.2.1-s1.1)) 8)),(g19,()))))) w) (zB Tryz.prog 250 #[.slice datap datal datac,.int .i64 (IntKind.wrap .i64 (n32 +
 1)),.int .i64 s1.2.1,.int .i64 s1.2.2.1] w fun v92 w=>K1 (s1.1,(n32,(s1.2.2.1,(decide (IntKind.wrap .i64 (s1.2.1-n32)≥IntKind.wrap .i64 (Int.tdiv (IntKind.wrap
 .i64 (s1.2.1-s1.1)) 8)),(g19,()))))) w)))) (Drw w fun w=>zB Tryz.prog 283 #[.slice datap datal datac,.int .i64 s1.1,.int .i64 s1.2.1,.int .i64 (IntKind.wrap
 .i64 ((IntKind.wrap .i64 (s1.2.1-1))-(IntKind.wrap .i64 (n22-s1.1))))] w fun v93 w=>T2 v93 fun v94 v95=>OpI .i64 v94 fun n33=>OpB v95 fun g20=>Req ((8:Int)
 ≠ 0) (Cb (decide (IntKind.wrap .i64 (n33-s1.1)<IntKind.wrap .i64 (s1.2.1-n33))) (zB Tryz.prog 250 #[.slice datap datal datac,.int .i64 s1.1,.int .i64 n33,.int
 .i64 s1.2.2.1] w fun v96 w=>K1 (IntKind.wrap .i64 (n33+1),(s1.2.1,(s1.2.2.1,(decide (IntKind.wrap .i64 (n33-s1.1)≥IntKind.wrap .i64 (Int.tdiv (IntKind.wrap .i64
 (s1.2.1-s1.1)) 8)),(g20,()))))) w) (zB Tryz.prog 250 #[.slice datap datal datac,.int .i64 (IntKind.wrap .i64 (n33+1)),.int .i64 s1.2.1,.int .i64 s1.2.2.1] w
 fun v97 w=>K1 (s1.1,(n33,(s1.2.2.1,(decide (IntKind.wrap .i64 (s1.2.1-n33)≥IntKind.wrap .i64 (Int.tdiv (IntKind.wrap .i64 (s1.2.1-s1.1)) 8)),(g20,())))))
 w)))))))) (Req (s1.2.2.2.1=s1.2.2.2.1) (Req ((cond s1.2.2.2.1 s1.2.2.2.2.1 false)=(cond s1.2.2.2.1 s1.2.2.2.2.1 false)) (Req ((cond s1.2.2.2.1 s1.2.2.2.2.1 false) =
 (cond s1.2.2.2.1 s1.2.2.2.2.1 false)) (Cb (cond (cond s1.2.2.2.1 s1.2.2.2.2.1 false) (n23==1) false) (zB Tryz.prog 280 #[.slice datap datal datac,.int .i64 s1.1,
 .int .i64 s1.2.1] w fun v98 w=>OpB v98 fun g21=>Cb g21 (Ret [] (R (.tuple #[]) w)) (Cb (decide (s1.1>0)) (IdxS datap datal (IntKind.wrap .i64 (s1.1-1)) 1 fun b13
 o12=>LdV b13 o12 (At w) fun v99=>OpI .u64 v99 fun n34=>IdxS datap datal n22 1 fun b14 o13=>LdV b14 o13 (At w) fun v100=>OpI .u64 v100 fun n35=>CallQ Tryz.prog
 281 #[.int .u64 n34,.int .u64 n35] (At w) fun v101=>OpB v101 fun g22=>Drw w fun w=>Cb (!g22) (zB Tryz.prog 282 #[.slice datap datal datac,.int .i64 s1.1,.int
 .i64 s1.2.1,.int .i64 n22] w fun v102 w=>OpI .i64 v102 fun n36=>K1 (n36,(s1.2.1,(s1.2.2.1,(s1.2.2.2.1,(s1.2.2.2.2.1,()))))) w) (zB Tryz.prog 283 #[.slice
 datap datal datac,.int .i64 s1.1,.int .i64 s1.2.1,.int .i64 n22] w fun v103 w=>T2 v103 fun v104 v105=>OpI .i64 v104 fun n37=>OpB v105 fun g23=>Req ((8:Int) ≠
 0) (Cb (decide (IntKind.wrap .i64 (n37-s1.1)<IntKind.wrap .i64 (s1.2.1-n37))) (zB Tryz.prog 250 #[.slice datap datal datac,.int .i64 s1.1,.int .i64 n37,.int
 .i64 s1.2.2.1] w fun v106 w=>K1 (IntKind.wrap .i64 (n37+1),(s1.2.1,(s1.2.2.1,(decide (IntKind.wrap .i64 (n37-s1.1)≥IntKind.wrap .i64 (Int.tdiv (IntKind.wrap
 .i64 (s1.2.1-s1.1)) 8)),(g23,()))))) w) (zB Tryz.prog 250 #[.slice datap datal datac,.int .i64 (IntKind.wrap .i64 (n37+1)),.int .i64 s1.2.1,.int .i64 s1.2.2.1]
 w fun v107 w=>K1 (s1.1,(n37,(s1.2.2.1,(decide (IntKind.wrap .i64 (s1.2.1-n37)≥IntKind.wrap .i64 (Int.tdiv (IntKind.wrap .i64 (s1.2.1-s1.1)) 8)),(g23,())))))
 w)))) (Drw w fun w=>zB Tryz.prog 283 #[.slice datap datal datac,.int .i64 s1.1,.int .i64 s1.2.1,.int .i64 n22] w fun v108 w=>T2 v108 fun v109 v110=>OpI .i64
 v109 fun n38=>OpB v110 fun g24=>Req ((8:Int)≠0) (Cb (decide (IntKind.wrap .i64 (n38-s1.1)<IntKind.wrap .i64 (s1.2.1-n38))) (zB Tryz.prog 250 #[.slice
 datap datal datac,.int .i64 s1.1,.int .i64 n38,.int .i64 s1.2.2.1] w fun v111 w=>K1 (IntKind.wrap .i64 (n38+1),(s1.2.1,(s1.2.2.1,(decide (IntKind.wrap .i64 (n38
 - s1.1)≥IntKind.wrap .i64 (Int.tdiv (IntKind.wrap .i64 (s1.2.1-s1.1)) 8)),(g24,()))))) w) (zB Tryz.prog 250 #[.slice datap datal datac,.int .i64 (IntKind.wrap
 .i64 (n38+1)),.int .i64 s1.2.1,.int .i64 s1.2.2.1] w fun v112 w=>K1 (s1.1,(n38,(s1.2.2.1,(decide (IntKind.wrap .i64 (s1.2.1-n38)≥IntKind.wrap .i64 (Int.tdiv
 (IntKind.wrap .i64 (s1.2.1-s1.1)) 8)),(g24,()))))) w))))) (Cb (decide (s1.1>0)) (IdxS datap datal (IntKind.wrap .i64 (s1.1-1)) 1 fun b15 o14=>LdV b15 o14 (At w)
 fun v113=>OpI .u64 v113 fun n39=>IdxS datap datal n22 1 fun b16 o15=>LdV b16 o15 (At w) fun v114=>OpI .u64 v114 fun n40=>CallQ Tryz.prog 281 #[.int .u64 n39,
 .int .u64 n40] (At w) fun v115=>OpB v115 fun g25=>Drw w fun w=>Cb (!g25) (zB Tryz.prog 282 #[.slice datap datal datac,.int .i64 s1.1,.int .i64 s1.2.1,.int .i64
 n22] w fun v116 w=>OpI .i64 v116 fun n41=>K1 (n41,(s1.2.1,(s1.2.2.1,(s1.2.2.2.1,(s1.2.2.2.2.1,()))))) w) (zB Tryz.prog 283 #[.slice datap datal datac,.int
 .i64 s1.1,.int .i64 s1.2.1,.int .i64 n22] w fun v117 w=>T2 v117 fun v118 v119=>OpI .i64 v118 fun n42=>OpB v119 fun g26=>Req ((8:Int)≠0) (Cb (decide
 (IntKind.wrap .i64 (n42-s1.1)<IntKind.wrap .i64 (s1.2.1-n42))) (zB Tryz.prog 250 #[.slice datap datal datac,.int .i64 s1.1,.int .i64 n42,.int .i64 s1.2.2.1] w
 fun v120 w=>K1 (IntKind.wrap .i64 (n42+1),(s1.2.1,(s1.2.2.1,(decide (IntKind.wrap .i64 (n42-s1.1)≥IntKind.wrap .i64 (Int.tdiv (IntKind.wrap .i64 (s1.2.1 -
 s1.1)) 8)),(g26,()))))) w) (zB Tryz.prog 250 #[.slice datap datal datac,.int .i64 (IntKind.wrap .i64 (n42+1)),.int .i64 s1.2.1,.int .i64 s1.2.2.1] w fun v121 w
 => K1 (s1.1,(n42,(s1.2.2.1,(decide (IntKind.wrap .i64 (s1.2.1-n42)≥IntKind.wrap .i64 (Int.tdiv (IntKind.wrap .i64 (s1.2.1-s1.1)) 8)),(g26,()))))) w)))) (Drw w
 fun w=>zB Tryz.prog 283 #[.slice datap datal datac,.int .i64 s1.1,.int .i64 s1.2.1,.int .i64 n22] w fun v122 w=>T2 v122 fun v123 v124=>OpI .i64 v123 fun n43 =>
 OpB v124 fun g27=>Req ((8:Int)≠0) (Cb (decide (IntKind.wrap .i64 (n43-s1.1)<IntKind.wrap .i64 (s1.2.1-n43))) (zB Tryz.prog 250 #[.slice datap datal datac,
 .int .i64 s1.1,.int .i64 n43,.int .i64 s1.2.2.1] w fun v125 w=>K1 (IntKind.wrap .i64 (n43+1),(s1.2.1,(s1.2.2.1,(decide (IntKind.wrap .i64 (n43-s1.1) ≥
 IntKind.wrap .i64 (Int.tdiv (IntKind.wrap .i64 (s1.2.1-s1.1)) 8)),(g27,()))))) w) (zB Tryz.prog 250 #[.slice datap datal datac,.int .i64 (IntKind.wrap .i64 (n43 +
 1)),.int .i64 s1.2.1,.int .i64 s1.2.2.1] w fun v126 w=>K1 (s1.1,(n43,(s1.2.2.1,(decide (IntKind.wrap .i64 (s1.2.1-n43)≥IntKind.wrap .i64 (Int.tdiv (IntKind.wrap
 .i64 (s1.2.1-s1.1)) 8)),(g27,()))))) w)))))))))))) (a,(b,(limit,(true,(true,()))))) w
theorem C_slices_pdqsortOrdered_uint64 {datap:Option Addr} {datal:Nat} {datac:Nat} {a:Int} {b:Int} {limit:Int} {w:World} {R:Value→World→Prop} (h:F_slices_pdqsortOrdered_uint64 datap datal datac a b limit w R):zB Tryz.prog 250 #[.slice datap datal datac,.int .i64 a,.int .i64 b,.int .i64 limit] w R:=by
 exact zE (args:=[.slice datap datal datac,.int .i64 a,.int .i64 b,.int .i64 limit]) (mkAnn [(2,[(1,(.int .i64)),(2,(.int .i64)),(3,(.int .i64)),(8,.bool),(9,.bool)])] [] [] [] []) zD Tryz.func250 rfl rfl (by kernel_rfl) h
def F_slices_Sort_uint64 (xp:Option Addr) (xl:Nat) (xc:Nat) (w:World) (R:Value→World→Prop):Prop :=
 zB Tryz.prog 251 #[.int .u64 (IntKind.wrap .u64 ((xl:Nat):Int))] w fun v w=>OpI .i64 v fun n=>zB Tryz.prog 250 #[.slice xp xl xc,.int .i64 0,.int .i64 ((xl
 : Nat):Int),.int .i64 n] w fun v1 w=>Ret [] (R (.tuple #[]) w)
theorem C_slices_Sort_uint64 {xp:Option Addr} {xl:Nat} {xc:Nat} {w:World} {R:Value→World→Prop} (h:F_slices_Sort_uint64 xp xl xc w R):zB Tryz.prog 203 #[.slice xp xl xc] w R:=by
 exact zE (args:=[.slice xp xl xc]) (mkAnn [] [] [] [] []) zD Tryz.func203 rfl rfl (by kernel_rfl) h
def F_IndexNil (p:Option Addr) (l:Nat) (c:Nat) (w:World) (R:Value→World→Prop):Prop :=
 LoopC (σ:=Int×Unit) (fun _ s1 w K1=>Cb (decide (s1.1<((l:Nat):Int))) (IdxS p l s1.1 1 fun b o=>LdV b o (At w) fun v=>OpN v fun b1 o1=>K1 (IntKind.wrap
 .i64 (s1.1+1),()) w) (Ret [] (R (.int .i64 (-1)) w))) (0,()) w
theorem C_IndexNil {p:Option Addr} {l:Nat} {c:Nat} {w:World} {R:Value→World→Prop} (h:F_IndexNil p l c w R):zB Tryz.prog 274 #[.slice p l c,.pointer none] w R:=by
 exact zE (args:=[.slice p l c,.pointer none]) (mkAnn [(2,[(8,(.int .i64))])] [] [] [] []) zD Tryz.func274 rfl rfl (by kernel_rfl) h
def F_ContainsNil (p:Option Addr) (l:Nat) (c:Nat) (w:World) (R:Value→World→Prop):Prop :=
 zB Tryz.prog 274 #[.slice p l c,.pointer none] w fun v w=>OpI .i64 v fun n=>Ret [] (R (.bool (decide (n≥0))) w)
theorem C_ContainsNil {p:Option Addr} {l:Nat} {c:Nat} {w:World} {R:Value→World→Prop} (h:F_ContainsNil p l c w R):zB Tryz.prog 248 #[.slice p l c,.pointer none] w R:=by
 exact zE (args:=[.slice p l c,.pointer none]) (mkAnn [] [] [] [] []) zD Tryz.func248 rfl rfl (by kernel_rfl) h
def F_intent_missing (ramsp:Option Addr) (ramsl:Nat) (ramsc:Nat) (w:World) (R:Value→World→Prop):Prop :=
 zB Tryz.prog 248 #[.slice ramsp ramsl ramsc,.pointer none] w fun v w=>OpB v fun g=>Ret [] (R (.bool g) w)
theorem C_intent_missing {ramsp:Option Addr} {ramsl:Nat} {ramsc:Nat} {w:World} {R:Value→World→Prop} (h:F_intent_missing ramsp ramsl ramsc w R):zB Tryz.prog 199 #[.slice ramsp ramsl ramsc] w R:=by
 exact zE (args:=[.slice ramsp ramsl ramsc]) (mkAnn [] [] [] [] []) zD Tryz.func199 rfl rfl (by kernel_rfl) h
def F_intent_each (ramsp:Option Addr) (ramsl:Nat) (ramsc:Nat) (x:Array Value) (w:World) (R:Value→World→Prop):Prop :=
 Alc 246 x w fun b w=>LoopC (σ:=Int×Unit) (fun _ s1 w K1=>Cb (decide (s1.1<((ramsl:Nat):Int))) (IdxS ramsp ramsl s1.1 1 fun b1 o=>LdV b1 o (At w) fun v =>
 OpN v fun b2 o1=>LdA 19 b 0 (At w) fun cs=>zB Tryz.prog 165 #[.pointer (some ⟨b2,o1,none⟩),.agg cs] w fun v1 w=>OpI .i64 v1 fun n=>Cb (n !=0) (Ret [] (R
 (.int .i64 n) w)) (K1 (IntKind.wrap .i64 (s1.1+1),()) w)) (Ret [] (R (.int .i64 0) w))) (0,()) w
theorem C_intent_each {ramsp:Option Addr} {ramsl:Nat} {ramsc:Nat} {x:Array Value} {w:World} {R:Value→World→Prop} (h:F_intent_each ramsp ramsl ramsc x w R):zB Tryz.prog 200 #[.slice ramsp ramsl ramsc,.agg x] w R:=by
 exact zE (args:=[.slice ramsp ramsl ramsc,.agg x]) (mkAnn [(2,[(10,(.int .i64))])] [] [] [] []) zD Tryz.func200 rfl rfl (by kernel_rfl) h
def F_intent_Begin (ramsp:Option Addr) (ramsl:Nat) (ramsc:Nat) (version:Int) (putsp:Option Addr) (putsl:Nat) (putsc:Nat) (w:World) (R:Value→World→Prop):Prop :=
 zB Tryz.prog 199 #[.slice ramsp ramsl ramsc] w fun v w=>OpB v fun g=>Cb g (Ret [] (R (.int .i64 2) w)) (LoopC (σ:=Int×Unit) (fun _ s1 w K1=>Cb (decide (s1.1 <
 ((putsl:Nat):Int))) (IdxS putsp putsl s1.1 19 fun b o=>LdA 19 b o (At w) fun cs=>Alc 88 (zc Tryz.prog 88) w fun b1 w=>StA 19 b1 0 cs w fun w=>LdV b1 0 (At w)
 fun v1=>OpI .i64 v1 fun n=>Cb (decide (n<0)) (Ret [] (R (.int .i64 2) w)) (LdV b1 0 (At w) fun v2=>OpI .i64 v2 fun n1=>Cb (decide (n1≥32)) (Ret [] (R (.int
 .i64 2) w)) (LdV b1 1 (At w) fun v3=>OpI .i64 v3 fun n2=>Cb (decide (n2<0)) (Ret [] (R (.int .i64 2) w)) (LdV b1 1 (At w) fun v4=>OpI .i64 v4 fun n3=>Cb (decide
 (n3≥1024)) (Ret [] (R (.int .i64 2) w)) (K1 (IntKind.wrap .i64 (s1.1+1),()) w))))) (LoopC (σ:=Int×Unit) (fun _ s2 w K2=>Cb (decide (s2.1<((putsl:Nat) :
 Int))) (IdxS putsp putsl s2.1 19 fun b2 o1=>LdA 19 b2 o1 (At w) fun cs1=>Alc 88 (zc Tryz.prog 88) w fun b3 w=>StA 19 b3 0 cs1 w fun w=>LdV b3 0 (At w) fun v5 =>
 OpI .i64 v5 fun n4=>LdV b3 1 (At w) fun v6=>OpI .i64 v6 fun n5=>LdA 16 b3 2 (At w) fun cs2=>DoQ Tryz.prog (Instr.build 246 #[(0,.int .i64 3),(1,.int .u64
 version),(2,.int .i64 (IntKind.wrap .i64 ((IntKind.wrap .i64 (n4*1024))+n5))),(3,.agg cs2)]) (At w) fun v7=>OpA 19 v7 fun cs3=>zB Tryz.prog 200 #[.slice
 ramsp ramsl ramsc,.agg cs3] w fun v8 w=>OpI .i64 v8 fun n6=>Cb (n6 !=0) (Ret [] (R (.int .i64 n6) w)) (K2 (IntKind.wrap .i64 (s2.1+1),()) w)) (DoQ Tryz.prog
 (Instr.build 246 #[(0,.int .i64 4),(1,.int .u64 version)]) (At w) fun v9=>OpA 19 v9 fun cs4=>zB Tryz.prog 200 #[.slice ramsp ramsl ramsc,.agg cs4] w fun v10 w
 => OpI .i64 v10 fun n7=>Ret [] (R (.int .i64 n7) w))) (0,()) w)) (0,()) w)
theorem C_intent_Begin {ramsp:Option Addr} {ramsl:Nat} {ramsc:Nat} {version:Int} {putsp:Option Addr} {putsl:Nat} {putsc:Nat} {w:World} {R:Value→World→Prop} (h:F_intent_Begin ramsp ramsl ramsc version putsp putsl putsc w R):zB Tryz.prog 131 #[.slice ramsp ramsl ramsc,.int .u64 version,.slice putsp putsl putsc] w R:=by
 exact zE (args:=[.slice ramsp ramsl ramsc,.int .u64 version,.slice putsp putsl putsc]) (mkAnn [(4,[(16,(.int .i64))]),(10,[(45,(.int .i64))])] [] [] [] []) zD Tryz.func131 rfl rfl (by kernel_rfl) h
def F_intent_End (ramsp:Option Addr) (ramsl:Nat) (ramsc:Nat) (version:Int) (w:World) (R:Value→World→Prop):Prop :=
 zB Tryz.prog 199 #[.slice ramsp ramsl ramsc] w fun v w=>OpB v fun g=>Cb g (Ret [] (R (.int .i64 2) w)) (DoQ Tryz.prog (Instr.build 246 #[(0,.int .i64 5),(1,.int
 .u64 version)]) (At w) fun v1=>OpA 19 v1 fun cs=>zB Tryz.prog 200 #[.slice ramsp ramsl ramsc,.agg cs] w fun v2 w=>OpI .i64 v2 fun n=>Ret [] (R (.int .i64 n)
 w))
theorem C_intent_End {ramsp:Option Addr} {ramsl:Nat} {ramsc:Nat} {version:Int} {w:World} {R:Value→World→Prop} (h:F_intent_End ramsp ramsl ramsc version w R):zB Tryz.prog 133 #[.slice ramsp ramsl ramsc,.int .u64 version] w R:=by
 exact zE (args:=[.slice ramsp ramsl ramsc,.int .u64 version]) (mkAnn [] [] [] [] []) zD Tryz.func133 rfl rfl (by kernel_rfl) h
def F_intent_group (listp:Option Addr) (listl:Nat) (listc:Nat) (version:Int) (w:World) (R:Value→World→Prop):Prop :=
 LoopC (σ:=(Option Addr×Nat×Nat)×Int×Unit) (fun _ s1 w K1=>Cb (decide (s1.2.1<((listl:Nat):Int))) (IdxS listp listl s1.2.1 19 fun b o=>LdA 19 b o (At w)
 fun cs=>Alc 246 (zc Tryz.prog 246) w fun b1 w=>StA 19 b1 0 cs w fun w=>LdV b1 0 (At w) fun v=>OpI .i64 v fun n=>Cb (n==3) (LdV b1 1 (At w) fun v1=>OpI .u64
 v1 fun n1=>Cb (n1==version) (LdV b1 2 (At w) fun v2=>OpI .i64 v2 fun n2=>Req ((1024:Int)≠0) (LdV b1 2 (At w) fun v3=>OpI .i64 v3 fun n3=>Req ((1024:Int)
 ≠ 0) (DoQ Tryz.prog (Instr.build 84 #[(0,.int .i64 (IntKind.wrap .i64 (Int.tdiv n2 1024))),(1,.int .i64 (Int.tmod n3 1024))]) (At w) fun v4=>OpA 2 v4 fun cs1=>Alc
 84 (zc Tryz.prog 84) w fun b2 w=>StA 2 b2 0 cs1 w fun w=>JoinC (σ:=(Option Addr×Nat×Nat)×Unit) (fun J2=>HeldR w fun S w=>LdA 2 b2 0 S fun cs2=>LdV b2 1 S
 fun v5=>OpI .i64 v5 fun n4=>LdA 16 b1 3 S fun cs3=>zB Tryz.prog 116 #[.int .i64 n4,.agg cs3] w fun v6 w=>OpA 17 v6 fun cs4=>Hld (S w) (DoQ Tryz.prog
 (Instr.build 88 #[(0,.agg cs2),(1,.agg cs4)]) S fun v7=>OpA 19 v7 fun cs5=>DoV Tryz.prog (Instr.buildSlice 75 1 #[(0,.agg cs5)]) w fun v8 w=>OpS v8 fun p l c =>
 Hld (S w) (DoV Tryz.prog (Builtin.append_ #[75,75] 75 #[.slice s1.1.1 s1.1.2.1 s1.1.2.2,.slice p l c]) w fun v9 w=>OpS v9 fun p1 l1 c1=>Hld (S w) (J2 ((p1,l1,c1),
 ()) w)))) (fun _ s2 w=>K1 ((s2.1.1,s2.1.2.1,s2.1.2.2),(IntKind.wrap .i64 (s1.2.1+1),())) w)))) (K1 ((s1.1.1,s1.1.2.1,s1.1.2.2),(IntKind.wrap .i64 (s1.2.1+1),
 ())) w)) (K1 ((s1.1.1,s1.1.2.1,s1.1.2.2),(IntKind.wrap .i64 (s1.2.1+1),())) w)) (Ret [] (R (.slice s1.1.1 s1.1.2.1 s1.1.2.2) w))) ((none,0,0),(0,())) w
theorem C_intent_group {listp:Option Addr} {listl:Nat} {listc:Nat} {version:Int} {w:World} {R:Value→World→Prop} (h:F_intent_group listp listl listc version w R):zB Tryz.prog 202 #[.slice listp listl listc,.int .u64 version] w R:=by
 exact zE (args:=[.slice listp listl listc,.int .u64 version]) (mkAnnR [(3,[(5,.slice),(11,(.int .i64))])] [] [] [] [37] [] [(7,[(5,.slice)])]) zD Tryz.func202 rfl rfl (by kernel_rfl) h
def F_intent_Pending (listsp:Option Addr) (listsl:Nat) (listsc:Nat) (w:World) (R:Value→World→Prop):Prop :=
 DoV Tryz.prog (Instr.makeMap 297 none) w fun v w=>OpM v fun m=>zB Tryz.prog 201 #[.slice listsp listsl listsc] w fun v1 w=>OpS v1 fun p l c=>LoopC (σ:=Int ×
 Unit) (fun _ s1 w K1=>Cb (decide (s1.1<((l:Nat):Int))) (IdxS p l s1.1 19 fun b o=>LdA 19 b o (At w) fun cs=>Alc 246 (zc Tryz.prog 246) w fun b1 w=>StA 19 b1
 0 cs w fun w=>LdV b1 0 (At w) fun v2=>OpI .i64 v2 fun n=>Cb (n==5) (LdV b1 1 (At w) fun v3=>OpI .u64 v3 fun n1=>DoQ Tryz.prog (Instr.build 130 #[]) (At w) fun
 v4=>OpA 0 v4 fun cs1=>DoU Tryz.prog (Instr.mapUpdate 297 (.map m) (.int .u64 n1) (.agg cs1)) w fun w=>K1 (IntKind.wrap .i64 (s1.1+1),()) w) (K1 (IntKind.wrap .i64
 (s1.1+1),()) w)) (DoV Tryz.prog (Instr.makeMap 298 none) w fun v5 w=>OpM v5 fun m1=>LoopC (σ:=Int×Unit) (fun _ s2 w K2=>Cb (decide (s2.1<((listsl:Nat) :
 Int))) (IdxS listsp listsl s2.1 1 fun b2 o1=>LdV b2 o1 (At w) fun v6=>OpS v6 fun p1 l1 c1=>LoopC (σ:=Int×Unit) (fun _ s3 w K3=>Cb (decide (s3.1<((l1:Nat) :
 Int))) (IdxS p1 l1 s3.1 19 fun b3 o2=>LdA 19 b3 o2 (At w) fun cs2=>Alc 246 (zc Tryz.prog 246) w fun b4 w=>StA 19 b4 0 cs2 w fun w=>LdV b4 0 (At w) fun v7=>OpI
 .i64 v7 fun n2=>Cb (n2 !=4) (K3 (IntKind.wrap .i64 (s3.1+1),()) w) (LdV b4 1 (At w) fun v8=>OpI .u64 v8 fun n3=>DoQ Tryz.prog (Instr.lookup 297 (.map m) (.int
 .u64 n3) true) (At w) fun v9=>T2 v9 fun v10 v11=>OpA 0 v10 fun cs3=>OpB v11 fun g=>Alc 130 (zc Tryz.prog 130) w fun b5 w=>StA 0 b5 0 cs3 w fun w=>LdV b4 1 (At
 w) fun v12=>OpI .u64 v12 fun n4=>DoQ Tryz.prog (Instr.lookup 298 (.map m1) (.int .u64 n4) true) (At w) fun v13=>T2 v13 fun v14 v15=>OpS v14 fun p2 l2 c2=>OpB v15
 fun g1=>Req ((!g)=(!g)) (Req ((!g)=(!g)) (Cb (cond (!g) (!g1) false) (HeldR w fun S w=>LdV b4 1 S fun v16=>OpI .u64 v16 fun n5=>Slc l1 c1 none (some s3.1) none
 fun l3 h m2=>LdV b4 1 (At w) fun v17=>OpI .u64 v17 fun n6=>zB Tryz.prog 202 #[.slice (slcP 19 l3 m2 p1) (h-l3) (m2-l3),.int .u64 n6] w fun v18 w=>OpS v18
 fun p3 l4 c3=>Hld (S w) (DoU Tryz.prog (Instr.mapUpdate 298 (.map m1) (.int .u64 n5) (.slice p3 l4 c3)) w fun w=>Hld (S w) (K3 (IntKind.wrap .i64 (s3.1+1),()) w)))
 (K3 (IntKind.wrap .i64 (s3.1+1),()) w))))) (K2 (IntKind.wrap .i64 (s2.1+1),()) w)) (0,()) w) (DoV Tryz.prog (Instr.range 298 (.map m1)) w fun v19 w=>OpN v19 fun
 b6 o3=>LoopC (σ:=(Option Addr×Nat×Nat)×Unit) (fun _ s4 w K4=>DoV Tryz.prog (Instr.next (.pointer (some ⟨b6,o3,none⟩)) false 0) w fun v20 w=>OpX v20 (fun k
 x=>DoQ Tryz.prog (Instr.entry (.pointer (some ⟨b6,o3,none⟩))) (At w) fun v21=>T2 v21 fun v22 v23=>OpI .u64 v22 fun n7=>DoV Tryz.prog (Instr.buildSlice 302 1
 #[(0,.int .u64 n7)]) w fun v24 w=>OpS v24 fun p4 l5 c4=>DoV Tryz.prog (Builtin.append_ #[302,302] 302 #[.slice s4.1.1 s4.1.2.1 s4.1.2.2,.slice p4 l5 c4]) w fun v25
 w=>OpS v25 fun p5 l6 c5=>K4 ((p5,l6,c5),()) w) (zB Tryz.prog 203 #[.slice s4.1.1 s4.1.2.1 s4.1.2.2] w fun v26 w=>LoopC (σ:=(Option Addr×Nat×Nat)×Int ×
 Unit) (fun _ s5 w K5=>Cb (decide (s5.2.1<((s4.1.2.1:Nat):Int))) (IdxS s4.1.1 s4.1.2.1 s5.2.1 1 fun b7 o4=>LdV b7 o4 (At w) fun v27=>OpI .u64 v27 fun n8=>DoQ
 Tryz.prog (Instr.lookup 298 (.map m1) (.int .u64 n8) false) (At w) fun v28=>OpS v28 fun p6 l7 c6=>DoV Tryz.prog (Builtin.append_ #[75,75] 75 #[.slice s5.1.1 s5.1.2.1
 s5.1.2.2,.slice p6 l7 c6]) w fun v29 w=>OpS v29 fun p7 l8 c7=>K5 ((p7,l8,c7),(IntKind.wrap .i64 (s5.2.1+1),())) w) (Ret [] (R (.slice s5.1.1 s5.1.2.1 s5.1.2.2)
 w))) ((none,0,0),(0,())) w)) ((none,0,0),()) w)) (0,()) w)) (0,()) w
theorem C_intent_Pending {listsp:Option Addr} {listsl:Nat} {listsc:Nat} {w:World} {R:Value→World→Prop} (h:F_intent_Pending listsp listsl listsc w R):zB Tryz.prog 132 #[.slice listsp listsl listsc] w R:=by
 exact zE (args:=[.slice listsp listsl listsc]) (mkAnn [(3,[(24,(.int .i64))]),(10,[(39,(.int .i64))]),(13,[(45,(.int .i64))]),(24,[(15,.slice)]),(30,[(17,.slice),(98,(.int .i64))])] [] [] [(88,((.int .u64),.any))] [81]) zD Tryz.func132 rfl rfl (by kernel_rfl) h
def F_intent_Redo (s:Array Value) (epoch:Int) (listsp:Option Addr) (listsl:Nat) (listsc:Nat) (w:World) (R:Value→World→Prop):Prop :=
 Alc 51 s w fun b w=>LdA 4 b 0 (At w) fun cs=>zB Tryz.prog 93 #[.agg cs] w fun v w=>OpI .i64 v fun n=>Cb (n !=0) (Ret [] (R (.int .i64 n) w)) (JoinC (σ:=Int ×
 Unit) (fun J1=>HeldR w fun S w=>LdA 4 b 0 S fun cs1=>zB Tryz.prog 132 #[.slice listsp listsl listsc] w fun v1 w=>OpS v1 fun p l c=>Hld (S w) (zB Tryz.prog
 38 #[.agg cs1,.slice p l c,.int .u32 epoch] w fun v2 w=>OpI .i64 v2 fun n1=>Hld (S w) (J1 (n1,()) w))) (fun _ s1 w=>Ret [] (R (.int .i64 s1.1) w)))
theorem C_intent_Redo {s:Array Value} {epoch:Int} {listsp:Option Addr} {listsl:Nat} {listsc:Nat} {w:World} {R:Value→World→Prop} (h:F_intent_Redo s epoch listsp listsl listsc w R):zB Tryz.prog 61 #[.agg s,.int .u32 epoch,.slice listsp listsl listsc] w R:=by
 exact zE (args:=[.agg s,.int .u32 epoch,.slice listsp listsl listsc]) (mkAnnR [] [] [] [] [15,17] [] [(4,[(6,(.int .i64))])]) zD Tryz.func61 rfl rfl (by kernel_rfl) h
end Go.Proofs
namespace Go.Proofs
open Go Go.Ev Go.ChangeShapes Go.WideShapes Go.ChangeAt Go.RowKit
section
variable {H:Type} {enc:TypeId×Value→H} {P:Program}
theorem trodAll_below (hl:laidOutB P=true) {W W':World} (hb:Below W.heap.size W W'):∀ (ts:List TypeId) (vs:List Value) (ds:List (DataW H)) (ps:List MemPlace),(∀ t∈ts,P.readableRec t=true∧t<P.types.size) →
  DataW.TrodAll enc P W 0 (fun _=>true) true ts vs ds ps→(∀ x∈ps,x.block<W.heap.size)→DataW.TrodAll enc P W' 0 (fun b=>decide (b<W.heap.size)) true ts vs ds ps
 | [],[],[],ps,_,h,_=>h
 | t::ts,v::vs,d::ds,ps,ht,h,hlt=>by
  obtain ⟨p,q,h1,h2,rfl⟩:=h
  have:=ht t (by simp)
  exact ⟨p,q,Below.trod hl this.1 this.2 h1 hb (fun x hx=>hlt x (by simp [hx])),trodAll_below hl hb ts vs ds q (fun t' h'=>ht t' (by simp [h'])) h2 (fun x hx=>hlt x (by simp [hx])),rfl⟩
 | [],_::_,_,_,_,h,_=>h.elim
 | [],[],_::_,_,_,h,_=>h.elim
 | _::_,[],_,_,_,h,_=>h.elim
 | _::_,_::_,[],_,_,h,_=>h.elim
theorem post_below {f:Func} {s:ChangeSpec} {tb:TypeId} {W W':World} {args:Array Value} {ds gs:List (DataW H)} {before:List MemPlace} (hW:DataW.Whole enc P f.params.toList s.vars false W args.toList ds gs before)
  (hl:laidOutB P=true) (hr:f.resultTypes=#[tb]) (ht:P.underlying tb=some .bool) (hv:s.vars=[]) (hs:s.fn H ds={ results:=[.lit (.bool true)],args:=ds })
  (hp:∀ t∈f.params.toList,P.readableRec t=true∧t<P.types.size) (hb:Below W.heap.size W W'):s.post enc P f false true false false W args (.bool true) W':=by
 have hW':=hW
 obtain ⟨p,q,hA,hV,rfl,hfz,hnd⟩:=hW
 rw [hv] at hV
 obtain ⟨rfl,rfl⟩:=trodVars_none hV
 refine ⟨ds,[],p++[],[],p,[],hW',?_,?_,?_,World.keptBut_mono (fun x hx=>hx) (hb.frame _),fun h=>by cases h⟩
 ·simp only [List.append_nil,hs,hr]
  exact trodAll_cons_mk (shut_bool ht _) trodAll_mk0
 ·simp only [List.append_nil,hs]
  exact trodAll_below hl hb _ _ _ _ hp hA (fun x hx=>hW'.lt x (by simp [hx]))
 ·simp only [List.append_nil,hs,hv]
  exact rfl
theorem mapM_each {α β:Type} {f:α→Option β}:∀ {l:List α} {ys:List β},l.mapM f=some ys→∀ a∈l,∃ y,f a=some y
 | [],_,_,a,ha=>by simp at ha
 | b::l,ys,h,a,ha=>by
  rw [List.mapM_cons] at h
  simp only [bind,Option.bind_eq_some_iff,pure,Option.some.injEq] at h
  obtain ⟨y,h1,ys',h2,rfl⟩:=h
  rcases List.mem_cons.1 ha with rfl | ha
  ·exact ⟨y,h1⟩
  ·exact mapM_each h2 a ha
theorem fits_reps {ks:List CK}:∀ (n a:Nat) (cs:List Value),cs.length=(a+n)*ks.length→(∀ i,i<n→Fits ks ((cs.drop ((a+i)*ks.length)).take ks.length))→Fits (List.replicate n ks).flatten (cs.drop (a*ks.length))
 | 0,a,cs,hl,_=>by
  have:cs.drop (a*ks.length)=[]:=List.drop_eq_nil_of_le (by rw [hl];simp)
  rw [this];simp [Fits]
 | n+1,a,cs,hl,h=>by
  rw [List.replicate_succ,List.flatten_cons]
  have h0:=h 0 (by omega)
  have hr:=fits_reps n (a+1) cs (by rw [hl];congr 1;omega) (fun i hi=>by have:=h (i+1) (by omega);rw [show a+(i+1)=a+1+i by omega] at this;exact this)
  rw [Nat.add_zero] at h0
  have:=h0.append hr
  rw [Nat.add_mul,Nat.one_mul,← List.drop_drop,List.take_append_drop] at this
  exact this
variable {w:World} {base:Nat} {spare:Nat→Bool} {held:Bool}
theorem fits_of_trod:∀ {d:Nat} {t:TypeId} {ks:List CK} {fuel:Nat} {cs:List Value} {x:DataW H×List MemPlace},flat P d t=some ks→DataW.trod enc P w base spare held fuel t cs=some x→Fits ks cs
 | 0,_,_,_,_,_,h,_=>by simp [flat] at h
 | d+1,t,ks,fuel,cs,x,h,ht=>by
  unfold flat at h
  cases hu:P.underlying t with
  | none=>simp [hu] at h
  | some kd =>
   cases kd
   case bool =>
    simp only [hu,Option.some.injEq] at h
    subst h
    cases fuel with
    | zero=>simp [DataW.trod] at ht
    | succ fuel =>
     unfold DataW.trod at ht
     rw [hu] at ht
     split at ht <;> simp_all
     exact ⟨⟨_,rfl⟩,trivial⟩
   case int k =>
    simp only [hu,Option.some.injEq] at h
    subst h
    obtain ⟨n,rfl,_,hw⟩:=DataW.trod_int hu ht
    simp only [Lit.wf,Bool.and_eq_true,decide_eq_true_eq] at hw
    exact ⟨⟨n,rfl,hw⟩,trivial⟩
   case array n e =>
    simp only [hu,Option.bind_eq_some_iff] at h
    obtain ⟨ks',he,h⟩:=h
    split at h
    ·rename_i hc
     obtain ⟨hc1,hc2⟩:=hc
     simp only [Option.some.injEq] at h
     subst h
     obtain ⟨xs,m,rfl,rfl,hl,hxs,hi⟩:=DataW.trod_array hu ht
     have:=fits_reps (ks:=ks') n 0 cs (by rw [hl,hc2,Nat.zero_add]) (fun i hlt=>by
      have:=hi i hlt
      rw [List.getElem?_eq_getElem (by omega)] at this
      have hf:=fits_of_trod he this
      rw [hc1,Nat.zero_add]
      exact hf)
     simpa using this
    ·cases h
   case struct fs =>
    replace h : (if fs.all (fun g => g.name != "_") = true then (flat.go P (flat P d) fs.toList 0).bind (fun ks => if ks.length = P.cellsOf t then some ks else none) else none) = some ks := by simpa only [hu] using h
    split at h
    ·simp only [Option.bind_eq_some_iff] at h
     obtain ⟨ks',hg,h⟩:=h
     split at h
     ·rename_i hc
      simp only [Option.some.injEq] at h
      subst h
      obtain ⟨xs,m,rfl,rfl,hl,hxs,hi⟩:=DataW.trod_struct hu ht
      have each:∀ f∈fs.toList,∀ kf,flat P d f.type=some kf→Fits kf ((cs.drop f.offset).take (P.cellsOf f.type)):=by
       intro f hf kf hk
       obtain ⟨i,hi'⟩:=List.getElem?_of_mem hf
       have h1:fs[i]? = some f:=by simpa using hi'
       have:=hi i f h1
       have hlt:=(Array.getElem?_eq_some_iff.1 h1).1
       rw [List.getElem?_eq_getElem (by omega)] at this
       exact fits_of_trod hk this
      have key:∀ (fs:List Field) (off:Nat) (ks:List CK),flat.go P (flat P d) fs off=some ks→off+ks.length=cs.length→(∀ f∈fs,∀ kf,flat P d f.type=some kf→Fits kf ((cs.drop f.offset).take (P.cellsOf f.type))) →
        Fits ks (cs.drop off):=by
       intro fs
       induction fs with
       | nil =>
        intro off ks h hl _
        simp only [flat.go,Option.some.injEq] at h
        subst h
        rw [List.drop_eq_nil_of_le (by simp at hl;omega)]
        trivial
       | cons f fs ih =>
        intro off ks h hl he
        simp only [flat.go,Option.bind_eq_some_iff] at h
        obtain ⟨kf,hk,h⟩:=h
        split at h
        ·rename_i hc
         obtain ⟨hc1,hc2⟩:=hc
         simp only [Option.map_eq_some_iff] at h
         obtain ⟨kr,hr,rfl⟩:=h
         rw [List.length_append] at hl
         have h2:=ih _ _ hr (by omega) (fun g hg=>he g (by simp [hg]))
         have h1:=he f (by simp) kf hk
         rw [hc1,← hc2] at h1
         have:=h1.append h2
         rw [← List.drop_drop,List.take_append_drop] at this
         exact this
        ·cases h
      have:=key fs.toList 0 ks' hg (by omega) each
      simpa using this
     ·cases h
    ·cases h
   all_goals (simp [hu] at h;done)
def Sl (W:World) (n:Nat) (xp:Option Addr) (l:Nat) (g:Nat→List Value):Prop :=
 ∀ i,i<l→(g i).length=n∧∃ b o,xp=some ⟨b,o,none⟩∧∀ j,j<n→W.cell? ⟨b,o+i*n+j,none⟩=(g i)[j]?
theorem Sl.keep {S:Nat→Prop} {W W':World} {n:Nat} {xp:Option Addr} {l:Nat} {g:Nat→List Value} (h:Sl W n xp l g) (hk:Keep S W W') (hS:∀ k,k<W.heap.size→¬ S k):Sl W' n xp l g:=by
 intro i hi
 obtain ⟨h1,b,o,rfl,h2⟩:=h i hi
 refine ⟨h1,b,o,rfl,fun j hj=>?_⟩
 have:=h2 j hj
 rw [← this]
 rw [List.getElem?_eq_getElem (by omega)] at this
 have hb:b<W.heap.size:=by
  unfold World.cell? at this
  cases hh:W.heap[b]? with
  | none=>simp [hh] at this
  | some x=>exact (Array.getElem?_eq_some_iff.1 hh).1
 exact World.cell?_of_block (w:=W) (hk.block b hb (hS b hb))
theorem Sl.idx {W:World} {n:Nat} {xp:Option Addr} {l:Nat} {g:Nat→List Value} (h:Sl W n xp l g) {i:Int} (h0:0≤i) (h1:i<l) {K:Nat→Nat→Prop}
  (hK:∀ b o,(∀ j,j<n→W.cell? ⟨b,o+j,none⟩=(g i.toNat)[j]?)→(g i.toNat).length=n→K b o):IdxS xp l i n K:=by
 obtain ⟨h2,b,o,rfl,h3⟩:=h i.toNat (by omega)
 exact ⟨b,o,rfl,h0,h1,hK _ _ h3 h2⟩
theorem Sl.ld {W:World} {xp:Option Addr} {l:Nat} {g:Nat→List Value} {v:Nat→Value} (h:Sl W 1 xp l g) (hg:∀ i,i<l→g i=[v i]) {i:Int} (h0:0≤i) (h1:i<l) {K:Value→Prop} (hK:K (v i.toNat)) :
  IdxS xp l i 1 fun b o=>LdV b o (At W) K :=
 h.idx h0 h1 fun b o hc _=>by
  refine LdV_at.2 ⟨v i.toNat,?_,hK⟩
  have:=hc 0 (by omega)
  rw [hg i.toNat (by omega)] at this
  simpa using this
theorem Sl.ld_iff {W:World} {xp:Option Addr} {l:Nat} {g:Nat→List Value} (h:Sl W 1 xp l g) {i:Int} (h0:0≤i) (h1:i<l) {v:Value} (hg:g i.toNat=[v]) {K:Value→Prop} :
  (IdxS xp l i 1 fun b o=>LdV b o (At W) K) ↔ K v:=by
 obtain ⟨h2,b,o,rfl,h3⟩:=h i.toNat (by omega)
 have hc:W.cell? ⟨b,o+i.toNat*1,none⟩=some v:=by
  have:=h3 0 (by omega)
  rw [hg] at this
  simpa using this
 constructor
 ·rintro ⟨b',o',hp,_,_,hK⟩
  cases hp
  obtain ⟨v',hv,hK⟩:=LdV_at.1 hK
  rw [hc] at hv
  cases hv
  exact hK
 ·exact fun hK=>⟨b,o,rfl,h0,h1,LdV_at.2 ⟨_,hc,hK⟩⟩
end
end Go.Proofs
namespace Go.Proofs
open Go Go.Ev
set_option maxRecDepth 100000
theorem flatMap_rows (d:List Rec):d.flatMap recL=(d.map recL).flatten:=by rw [List.flatMap_def]
theorem rows_len (d:List Rec):∀ r∈d.map recL,r.length=19:=by
 intro r hr
 obtain ⟨x,_,rfl⟩:=List.mem_map.1 hr
 rfl
def RecSl (w:World) (p:Option Addr) (l:Nat) (rs:List Rec):Prop:=l=rs.length∧Sl w 19 p l fun i=>recL (rs.getD i default)
def Lists (w:World) (xp:Option Addr) (n:Nat) (rss:List (List Rec)):Prop :=
 n=rss.length∧∃ P:Nat→Option Addr×Nat×Nat,Sl w 1 xp n (fun i=>[.slice (P i).1 (P i).2.1 (P i).2.2])∧∀ i,i<n→RecSl w (P i).1 (P i).2.1 (rss.getD i [])
theorem RecSl.keep {S:Nat→Prop} {w w':World} {p:Option Addr} {l:Nat} {rs:List Rec} (h:RecSl w p l rs) (hk:Keep S w w') (hS:∀ k,k<w.heap.size→¬ S k):RecSl w' p l rs:=⟨h.1,h.2.keep hk hS⟩
theorem Lists.keep {S:Nat→Prop} {w w':World} {xp:Option Addr} {n:Nat} {rss:List (List Rec)} (h:Lists w xp n rss) (hk:Keep S w w') (hS:∀ k,k<w.heap.size→¬ S k):Lists w' xp n rss:=by
 obtain ⟨h1,P,h2,h3⟩:=h
 exact ⟨h1,P,h2.keep hk hS,fun i hi=>(h3 i hi).keep hk hS⟩
theorem info_rec:∃ i,Tryz.prog.info? 246=some i:=⟨(Tryz.prog.info? 246).get (by kernel_rfl),by kernel_rfl⟩
theorem RecSl.cells {w:World} {p:Option Addr} {l:Nat} {rs:List Rec} (h:RecSl w p l rs) (h0:0<l):∃ b o,p=some ⟨b,o,none⟩∧∀ j u,(rs.flatMap recL)[j]? = some u→w.cell? ⟨b,o+j,none⟩=some u:=by
 obtain ⟨hl,hs⟩:=h
 obtain ⟨_,b,o,hp,_⟩:=hs 0 h0
 refine ⟨b,o,hp,fun j u hj=>?_⟩
 have hjl:j<rs.length*19:=by
  have:=(List.getElem?_eq_some_iff.1 hj).1
  rwa [flatMap_rows,length_rows (rows_len _),List.length_map] at this
 obtain ⟨_,b',o',hp',hc⟩:=hs (j / 19) (by omega)
 rw [hp] at hp'
 cases hp'
 have h1:=hc (j % 19) (by omega)
 have h2:j / 19<rs.length:=by omega
 have h3:=get_rows (rows_len rs) (i:=j / 19) (r:=recL rs[j / 19]) (by simp [h2]) (j % 19) (by omega)
 rw [← flatMap_rows,show j / 19*19+j % 19=j by omega,hj] at h3
 rw [show o+j=o+j / 19*19+j % 19 by omega,h1,h3]
 simp [List.getD,h2]
theorem app_recs {w:World} {base:Nat} {p:Option Addr} {l c:Nat} {rs:List Rec} (h:Own w base 246 19 p l c (rs.flatMap recL)) {p2:Option Addr} {l2 c2:Nat} {rs2:List Rec} (h2:RecSl w p2 l2 rs2)
  (hl:l+l2≤1000000000) (hbase:base≤w.heap.size) :
  ∃ p' c' w',(Builtin.append_ #[113,113] 113 #[.slice p l c,.slice p2 l2 c2]).run Tryz.prog w=.ok (.slice p' (l+l2) c') w' ∧
   Own w' base 246 19 p' (l+l2) c' ((rs++rs2).flatMap recL)∧Keep (fun k=>p=some ⟨k,0,none⟩) w w':=by
 by_cases h0:0<l2
 ·obtain ⟨b,o,rfl,hc⟩:=h2.cells h0
  have hlen:(rs2.flatMap recL).length=l2*19:=by rw [flatMap_rows,length_rows (rows_len _),List.length_map,h2.1]
  have:=run_appendOwn (P:=Tryz.prog) (t:=113) (ty:=113) (i:=((Tryz.prog.info? 246).get (by kernel_rfl))) (z:=((((Tryz.prog.info? 246).get (by kernel_rfl)).zero).get (by kernel_rfl))) (size:=19) (bytes:=40) (by kernel_rfl) (by kernel_rfl) (by kernel_rfl) (by kernel_rfl) (by kernel_rfl) (by kernel_rfl) (by decide) h
   (a:=⟨b,o,none⟩) (m:=l2) (c2:=c2) (news:=rs2.flatMap recL) hlen (fun jj u hu=>by
    have:Addr.add ⟨b,o,none⟩ jj=⟨b,o+jj,none⟩:=by unfold Addr.add;split <;> simp_all
    rw [this]
    exact hc jj u hu) (fun u hu=>by obtain ⟨r,_,hr⟩:=List.mem_flatMap.1 hu;exact one_recL' r u hr) (by omega) (by simp [maxLen];omega) hbase
  simpa using this
 ·have hz:l2=0:=by omega
  subst hz
  have hrs:rs2=[]:=List.eq_nil_of_length_eq_zero h2.1.symm
  subst hrs
  refine ⟨p,c,w,?_,by simpa using h,Keep.refl _ _⟩
  have hle:l≤c:=by
   rcases h.cases with ⟨_,rfl,rfl,_⟩ | ⟨b,cur,_,_,_,hle,_⟩
   ·exact Nat.le_refl _
   ·exact hle
  have ht:Tryz.prog.underlying 113=some (.slice 246):=by kernel_rfl
  obtain ⟨i,hi⟩:=info_rec
  have hsrc:∀ q:Option Addr,Src Tryz.prog i.size 113 (.slice q 0 c2) 0 [] w:=by
   intro q
   cases q with
   | none=>exact Src.ofNil (e':=246) w ht c2
   | some a=>exact Src.ofSlice (e':=246) w ht a 0 c2 [] (by simp) (fun j u h=>by simp at h) (fun u h=>by simp at h)
  exact run_append_nothing w _ _ _ _ i ht hi p l c hle _ (hsrc p2)
theorem grow_nil {n:Int} (h0:0≤n) (h1:n≤1000000000) {w:World} {R:Value→World→Prop}
  (hK:∀ p c w',Own w' w.heap.size 246 19 p 0 c []→Keep (fun _=>False) w w'→R (.slice p 0 c) w') :
  zB Tryz.prog 249 #[.slice none 0 0,.int .i64 n] w R:=by
 apply C_slices_Grow_Record
 unfold F_slices_Grow_Record
 rw [show decide (n<0)=false by simp;omega,Cb_false]
 have ew:IntKind.wrap .i64 (n-IntKind.wrap .i64 (((0:Nat):Int)-((0:Nat):Int)))=n:=by
  rw [show IntKind.wrap .i64 (((0:Nat):Int)-((0:Nat):Int))=0 from rfl,Int.sub_zero]
  exact wrapI (by omega) (by omega)
 rw [ew]
 refine Cb_of (fun hn=>?_) (fun hn=>?_)
 ·have hn':0<n:=by simpa using hn
  refine ⟨by decide,by decide,by decide,by decide,?_⟩
  have hnn:n=((n.toNat:Nat):Int):=by omega
  have hr:=Lib.run_append_nil_zeros (P:=Tryz.prog) w 113 3 113 246 ((Tryz.prog.info? 246).get (by kernel_rfl)) ((((Tryz.prog.info? 246).get (by kernel_rfl)).zero).get (by kernel_rfl)) .i64 .i64 (by kernel_rfl) (by kernel_rfl) (by kernel_rfl) (by kernel_rfl)
   n.toNat (by omega) (by decide +kernel) (by omega) (by rw [show ((Tryz.prog.info? 246).get (by kernel_rfl)).bytes=40 by kernel_rfl];omega)
  rw [← hnn] at hr
  refine ⟨_,_,hr,?_⟩
  simp only [zC]
  have hge:=grownCap_ge w n.toNat 0 246
  have hcm:grownCap w n.toNat 0 246≤maxLen:=grownCap_le_maxLen w n.toNat 0 246 (by simp [maxLen];omega)
  generalize grownCap w n.toNat 0 246=cp at *
  refine ⟨by simp,by simp,by simp,by simp,?_⟩
  simp only [Ret_nil,Option.getD_none,Option.getD_some,Int.toNat_zero,Int.toNat_natCast,Nat.sub_zero]
  have hs:slcP 19 0 cp (some ⟨w.heap.size,0,none⟩)=some ⟨w.heap.size,0,none⟩:=by
   unfold slcP
   split
   ·rfl
   ·simp [Addr.add]
  refine (congrArg (fun q=>R (Value.slice q 0 cp) _) hs).mpr ?_
  refine hK _ _ _ (Own.mk (Nat.le_refl _) (Has.new _ _) (by omega) hcm ?_ (by simp)) ?_
  ·rw [Array.size_append,size_zeroCells,size_zeroCells,show ((((Tryz.prog.info? 246).get (by kernel_rfl)).zero).get (by kernel_rfl)).cells.size=19 by kernel_rfl,← Nat.add_mul]
   congr 1;omega
  ·exact (Keep.refl (fun _=>False) w).trans ⟨rfl,rfl,rfl,by simp,fun k hk _=>by show (w.heap.push _)[k]? = _;rw [Array.getElem?_push,if_neg (by omega)]⟩
 ·simp only [Ret_nil]
  exact hK none 0 w (Own.nil _ _ _ _) (Keep.refl _ _)
def total (rss:List (List Rec)):Nat:=rss.flatten.length
theorem take_succ_get {rss:List (List Rec)} {j:Nat} (h:j<rss.length):(rss.take (j+1)).flatten=(rss.take j).flatten++rss.getD j []:=by
 rw [List.take_add_one,List.flatten_append]
 simp [List.getD,h]
theorem total_take {rss:List (List Rec)} (j:Nat):(rss.take j).flatten.length≤total rss:=by
 unfold total
 conv=>rhs;rw [← List.take_append_drop j rss,List.flatten_append,List.length_append]
 omega
theorem concat_recs {xp:Option Addr} {n c:Nat} {rss:List (List Rec)} {w:World} {R:Value→World→Prop} (h:Lists w xp n rss) (hn:n≤1000000000) (ht:total rss≤1000000000)
  (hK:∀ p l cp w',Own w' w.heap.size 246 19 p l cp (rss.flatten.flatMap recL)→Keep (fun _=>False) w w'→R (.slice p l cp) w') :
  zB Tryz.prog 201 #[.slice xp n c] w R:=by
 apply C_slices_Concat_Record
 unfold F_slices_Concat_Record
 obtain ⟨hl,P,hP,hr⟩:=id h
 have ld:∀ {w':World},Keep (fun _=>False) w w'→∀ j:Nat,j<n→∀ K:Value→Prop,K (.slice (P j).1 (P j).2.1 (P j).2.2)→IdxS xp n (j:Int) 1 fun b o=>LdV b o (At w') K:=by
  intro w' hk j hj K hK
  exact ((hP.keep hk (by simp)).ld_iff (i:=(j:Int)) (by omega) (by omega) (v:=.slice (P j).1 (P j).2.1 (P j).2.2) (by simp)).2 hK
 refine LoopC_of (σ:=Int×Int×Unit) (fun s w'=>w'=w∧∃ j:Nat,s.2.1=j∧j≤n∧s.1=((rss.take j).flatten.length:Int)) (fun s _=>(n-s.2.1).toNat) ⟨rfl,0,rfl,by omega,by simp⟩ ?_
 intro _ s w1 hs
 obtain ⟨sz,i,u⟩:=s
 obtain ⟨rfl,j,hij,hjn,hsz⟩:=hs
 simp only at hij hsz ⊢
 subst hij hsz
 refine Cb_of (fun hc=>?_) (fun hc=>?_)
 ·have hj:j<n:=by simp only [decide_eq_true_eq] at hc;omega
  refine ld (Keep.refl _ _) j hj _ ?_
  simp only [zC]
  have e1:=take_succ_get (rss:=rss) (j:=j) (by omega)
  have e2:=total_take (rss:=rss) (j+1)
  rw [e1,List.length_append] at e2
  have e3:=(hr j hj).1
  have ew:IntKind.wrap .i64 (((rss.take j).flatten.length:Int)+((P j).2.1:Int))=((rss.take (j+1)).flatten.length:Int):=by
   rw [wrapI (by omega) (by omega),e1,List.length_append,e3];omega
  rw [ew,show decide (((rss.take (j+1)).flatten.length:Int)<0)=false by simp,Cb_false]
  have ew2:IntKind.wrap .i64 ((j:Int)+1)=((j+1:Nat):Int):=by rw [wrapI (by omega) (by omega)];omega
  rw [ew2]
  exact ⟨_,by omega,⟨trivial,j+1,rfl,hj,rfl⟩,rfl⟩
 ·have hj:j=n:=by simp only [decide_eq_false_iff_not] at hc;omega
  subst hj
  refine grow_nil (by omega) (by have:=total_take (rss:=rss) j;omega) fun p c' w2 ho k2=>?_
  simp only [zC]
  refine LoopC_of (σ:=(Option Addr×Nat×Nat)×Int×Unit) (fun s w'=>∃ i:Nat,s.2.1=i∧i≤j∧Keep (fun _=>False) w1 w'∧Own w' w1.heap.size 246 19 s.1.1 s.1.2.1 s.1.2.2 ((rss.take i).flatten.flatMap recL)) (fun s _=>(j-s.2.1).toNat)
   ⟨0,rfl,by omega,k2,by simpa using ho⟩ ?_
  intro _ s w3 hs
  obtain ⟨⟨q,l,cq⟩,i,u⟩:=s
  obtain ⟨i,hij,hin,k3,ho3⟩:=hs
  simp only at hij ho3 ⊢
  subst hij
  refine Cb_of (fun hc=>?_) (fun hc=>?_)
  ·have hi:i<j:=by simp only [decide_eq_true_eq] at hc;omega
   refine ld k3 i hi _ ?_
   simp only [zC]
   have e1:=take_succ_get (rss:=rss) (j:=i) (by omega)
   have e2:=total_take (rss:=rss) (i+1)
   rw [e1,List.length_append] at e2
   have e3:=(hr i hi).1
   have hlq:l=(rss.take i).flatten.length:=by
    have h5:=ho3
    rw [flatMap_rows] at h5
    have h6:=h5.count (rows_len _) (by decide)
    rwa [List.length_map] at h6
   obtain ⟨p',c2,w4,hr4,ho4,k4⟩:=app_recs (c2:=(P i).2.2) ho3 ((hr i hi).keep k3 (by simp)) (by omega) (by have:=k3.size;omega)
   refine ⟨_,_,hr4,?_⟩
   simp only [zC]
   have ew2:IntKind.wrap .i64 ((i:Int)+1)=((i+1:Nat):Int):=by rw [wrapI (by omega) (by omega)];omega
   rw [ew2]
   refine ⟨_,by omega,⟨i+1,rfl,hi,k3.trans' k4 (fun k hk hp=>by have:=(ho3.lt hp).1;omega),by rw [e1];exact ho4⟩,rfl⟩
  ·have hi:i=j:=by simp only [decide_eq_false_iff_not] at hc;omega
   subst hi
   simp only [Ret_nil]
   have:rss.take i=rss:=by rw [hl];simp
   rw [this] at ho3
   exact hK q l cq w3 ho3 k3
end Go.Proofs
namespace Go.Proofs
open Go Go.Ev Go.RowKit
set_option maxRecDepth 100000
theorem len_pk (x:Rec):(packB x).length=37:=rfl
section calls
variable {w:World} {R:Value→World→Prop} {base m r:Nat} {size:Int} {p:Option Addr} {l c:Nat} {bs:List Int} {pw:Pow} {rp:Option Addr} {rc:Nat}
theorem i_missing {rs:List Nat} {rl:Nat} (h:SlL dLay w rp rl rs) (hl:rl≤1000000) (hK:R (.bool false) w):zB Tryz.prog 199 #[.slice rp rl rc] w R:=by
 apply C_intent_missing
 unfold F_intent_missing
 apply C_ContainsNil
 unfold F_ContainsNil
 apply C_IndexNil
 unfold F_IndexNil
 have hlen:=h.1
 refine LoopC_of (σ:=Int×Unit) (fun st w'=>w'=w∧∃ i:Nat,st.1=(i:Int)∧i≤rl) (fun st _=>((rl:Int)-st.1).toNat) ⟨rfl,0,rfl,by omega⟩ ?_
 rintro _ ⟨i,u⟩ w1 ⟨rfl,i',hi,hil⟩
 simp only at hi ⊢
 subst hi
 refine Cb_of (fun hc=>?_) (fun hc=>?_)
 ·have hc:i'<rl:=by
   have:(i':Int)<(rl:Int):=by simpa using hc
   omega
  have ek:IntKind.wrap .i64 ((i':Int)+1)=((i'+1:Nat):Int):=by rw [wrapI (by omega) (by omega)];omega
  obtain ⟨y,hy⟩:∃ y,rs[i']? = some y:=⟨_,List.getElem?_eq_getElem (by omega)⟩
  refine h.ld0 (i:=(i':Int)) (n:=1) (x:=y) (v:=.pointer (some ⟨y,0,none⟩)) rfl (by omega) (by rw [Int.toNat_natCast];exact hy) rfl (OpN_some.2 ?_)
  exact ⟨_,by show ((rl:Int)-IntKind.wrap .i64 ((i':Int)+1)).toNat<((rl:Int)-(i':Int)).toNat;rw [ek];omega,⟨by first | rfl | trivial,i'+1,ek,by omega⟩,rfl⟩
 ·exact Ret_nil.2 (zA.2 (Ret_nil.2 (OpB_bool.2 (Ret_nil.2 hK))))
def recI (v:Int) (x:PutS):Rec:=⟨3,v,x.plc.dk*1024+x.plc.at_,x.cel.data⟩
def recK (k v:Int):Rec:=⟨k,v,0,sec []⟩
theorem bld_rk (k v:Int) (w:World):(Instr.build 246 #[(0,.int .i64 k),(1,.int .u64 v)]).run Tryz.prog w=.ok (.agg (recV (recK k v))) w:=run_build _ _ _ _ (by kernel_rfl)
theorem zc_pu:(zc Tryz.prog 88).size=19:=by kernel_rfl
theorem pu_dat (x:PutS):(putSV x).extract 2 (2+16)=secV x.cel.data:=by kernel_rfl
theorem pu_row (x:PutS):(puLay.row x).toArray=putSV x:=by kernel_rfl
def InR (x:PutS):Prop:=(0≤x.plc.dk∧x.plc.dk<32)∧(0≤x.plc.at_∧x.plc.at_<1024)
end calls
def putR (x:Rec):PutS:=⟨⟨x.lba / 1024,x.lba % 1024⟩,⟨x.data,sumS (x.lba % 1024) x.data⟩⟩
def isI (v:Int) (x:Rec):Bool:=x.kind==3 && x.ver==v
def grp (v:Int) (rs:List Rec):List PutS:=(rs.filter (isI v)).map putR
theorem bld_pu (x:PutS) (w:World):(Instr.build 88 #[(0,.agg (plcV x.plc)),(1,.agg (celV x.cel))]).run Tryz.prog w=.ok (.agg (putSV x)) w:=run_build _ _ _ _ (by kernel_rfl)
theorem rc_row (x:Rec):(rLay.row x).toArray=recV x:=by kernel_rfl
theorem rc_dat (x:Rec):(recV x).extract 3 (3+16)=secV x.data:=by kernel_rfl
section group
variable {w:World} {R:Value→World→Prop}
theorem i_group {p:Option Addr} {l c:Nat} {rs:List Rec} {v:Int} (h:SlL rLay w p l rs) (hl:l≤100000) (hlba:∀ x∈rs,0≤x.lba∧x.lba≤2147483647)
  (hK:∀ p' c' w',OwnL puLay w' w.heap.size 88 p' (grp v rs).length c' (grp v rs)→Keep (fun _=>False) w w'→R (.slice p' (grp v rs).length c') w') :
  zB Tryz.prog 202 #[.slice p l c,.int .u64 v] w R:=by
 apply C_intent_group
 unfold F_intent_group
 have hlen:=h.1
 refine LoopC_of (σ:=(Option Addr×Nat×Nat)×Int×Unit) (fun st w'=>∃ i:Nat,st.2.1=(i:Int)∧i≤l∧OwnL puLay w' w.heap.size 88 st.1.1 st.1.2.1 st.1.2.2 (grp v (rs.take i))∧Keep (fun _=>False) w w') (fun st _=>((l:Int)-st.2.1).toNat)
  ⟨0,rfl,by omega,OwnL.nil,Keep.refl _ _⟩ ?_
 rintro _ ⟨⟨q,ql,qc⟩,i,u⟩ w1 ⟨i',hi,hil,o1,k1⟩
 simp only at hi o1 ⊢
 subst hi
 refine Cb_of (fun hc=>?_) (fun hc=>?_)
 ·have hc:i'<l:=by
   have:(i':Int)<(l:Int):=by simpa using hc
   omega
  have ek:IntKind.wrap .i64 ((i':Int)+1)=((i'+1:Nat):Int):=by rw [wrapI (by omega) (by omega)];omega
  have hless:((l:Int)-IntKind.wrap .i64 ((i':Int)+1)).toNat<((l:Int)-(i':Int)).toNat:=by rw [ek];omega
  obtain ⟨x,hx⟩:∃ x,rs[i']? = some x:=⟨_,List.getElem?_eq_getElem (by omega)⟩
  have hxl:=hlba x (List.mem_of_getElem? hx)
  have htake:rs.take (i'+1)=rs.take i'++[x]:=by rw [List.take_add_one,hx];rfl
  have hql:ql≤i':=by
   have e:=o1.length
   have:(grp v (rs.take i')).length≤(rs.take i').length:=by
    unfold grp
    rw [List.length_map]
    exact List.length_filter_le _ _
   rw [List.length_take] at this
   omega
  refine (h.keepB k1 (by simp)).ldA (i:=(i':Int)) (n:=19) (x:=x) rfl (by omega) (by rw [Int.toNat_natCast];exact hx) ?_
  rw [rc_row]
  refine copy_of zc_rc rfl (one_recL x) fun w2 hb2 k2 z2=>?_
  have k02:=k1.trans k2
  have o2:=o1.keep k2 (by simp)
  have skip:isI v x=false→∃ m_1,m_1<((l:Int)-(i':Int)).toNat∧(∃ i:Nat,IntKind.wrap .i64 ((i':Int)+1)=(i:Int)∧i≤l∧OwnL puLay w2 w.heap.size 88 q ql qc (grp v (rs.take i))∧Keep (fun _=>False) w w2)∧((l:Int)-IntKind.wrap .i64 ((i':Int)+1)).toNat=m_1:=fun e=>⟨_,hless,⟨i'+1,ek,by omega,by
   rw [htake]
   unfold grp at o2 ⊢
   rw [List.filter_append]
   simpa [e] using o2,k02⟩,rfl⟩
  refine LdV_has (v:=.int .i64 x.kind) hb2 rfl (zA.2 ?_)
  refine Cb_of (fun e3=>?_) (fun e3=>skip (by unfold isI;rw [e3];rfl))
  refine LdV_has (v:=.int .u64 x.ver) hb2 rfl (zA.2 ?_)
  refine Cb_of (fun ev=>?_) (fun ev=>skip (by unfold isI;rw [ev,Bool.and_false]))
  have hI:isI v x=true:=by unfold isI;rw [e3,ev];rfl
  refine LdV_has (v:=.int .i64 x.lba) hb2 rfl (zA.2 ⟨by decide,?_⟩)
  refine LdV_has (v:=.int .i64 x.lba) hb2 rfl (zA.2 ⟨by decide,?_⟩)
  rw [Int.tdiv_eq_ediv_of_nonneg hxl.1,wrapI (x:=x.lba / 1024) (by omega) (by omega),Int.tmod_eq_emod_of_nonneg hxl.1]
  refine DoQ_of (v:=.agg (plcV (putR x).plc)) (fun _=>run_build _ _ _ _ (by kernel_rfl)) (OpA_agg.2 ⟨rfl,?_⟩)
  refine copy_of (by kernel_rfl) rfl (by intro v hv;have hv:v∈[Value.int .i64 (x.lba / 1024),.int .i64 (x.lba % 1024)]:=hv;simp only [List.mem_cons,List.not_mem_nil,or_false] at hv;rcases hv with rfl | rfl <;> rfl) fun w3 hb3 k3 z3=>?_
  have hb23:=k3.has hb2 (by simp)
  have o3:=o2.keep k3 (by simp)
  have k03:=k02.trans k3
  refine ⟨fun st' w'=>OwnL puLay w' w.heap.size 88 st'.1.1 st'.1.2.1 st'.1.2.2 (grp v (rs.take (i'+1)))∧Keep (fun _=>False) w w',?_,?_⟩
  ·intro d
   have kd:=Keep.drew (fun _=>False) w3 d
   have hb4:=kd.has hb3 (by simp)
   have hc4:=kd.has hb23 (by simp)
   have o4:=o3.keep kd (by simp)
   have k04:=k03.trans kd
   generalize w3.dr d=w4 at *
   generalize w2.heap.size=b2 at *
   generalize w1.heap.size=b1 at *
   have hS_:∀ w',Keep (fun _=>False) w4 w'→Has w' b2 (.cells (plcV (putR x).plc) 84 (0,0))∧Has w' b1 (.cells (recV x) 246 (0,0)):=fun w' k=>⟨k.has hb4 (by simp),k.has hc4 (by simp)⟩
   refine ⟨fun w'=>Has w' b2 (.cells (plcV (putR x).plc) 84 (0,0))∧Has w' b1 (.cells (recV x) 246 (0,0)),hS_ _ (Keep.refl _ _),?_⟩
   refine LdA_of (cs:=plcV (putR x).plc) rfl (fun w' hw=>⟨_,_,_,hw.1,Nat.le_refl 2,rfl⟩) ?_
   refine LdV_of (v:=.int .i64 (x.lba % 1024)) (fun w' hw=>⟨_,_,_,hw.1,rfl⟩) (zA.2 ?_)
   refine LdA_of (cs:=secV x.data) rfl (fun w' hw=>⟨_,_,_,hw.2,by show 3+16≤19;decide,rc_dat x⟩) ?_
   refine s_Seal fun w5 k5=>OpA_agg.2 ⟨rfl,hS_ _ k5,?_⟩
   refine ⟨.agg (putSV (putR x)),fun w' _=>bld_pu (putR x) w',OpA_agg.2 ⟨rfl,?_⟩⟩
   refine ⟨_,_,bsl_pu1 _ w5,zC.2 ?_⟩
   have k6:=Keep.new (fun _=>False) w5 (.cells (putSV (putR x)) 88)
   have hb6:=Has.new w5 (.cells (putSV (putR x)) 88)
   generalize w5.alloc (.cells (putSV (putR x)) 88)=w6 at *
   refine ⟨hS_ _ (k5.trans k6),?_⟩
   have o6:=(o4.keep k5 (by simp)).keep k6 (by simp)
   have k06:=(k04.trans k5).trans k6
   obtain ⟨p7,c7,w7,hr7,o7,k7,hp7⟩:=run_appendF1 puLayT o6 (y:=putR x) hb6 rfl (ty:=75) (by omega) (by simp only [maxLen];omega) (by have:=k06.size;omega) (c2:=1)
   refine ⟨_,_,hr7,zC.2 ?_⟩
   have k07:Keep (fun _=>False) w w7:=k06.trans' k7 fun i hi e=>by have:=(o6.lt e).1;omega
   have k47:∀ b cs t,Has w4 b (.cells cs t (0,0))→t≠88→Has w7 b (.cells cs t (0,0)):=fun b cs t hb ht=>by
    have hb':=(k5.trans k6).has hb (by simp)
    exact k7.has hb' (OwnL.neH o6 hb' ht)
   refine ⟨⟨k47 _ _ _ hb4 (by decide),k47 _ _ _ hc4 (by decide)⟩,?_,k07⟩
   show OwnL puLay w7 w.heap.size 88 p7 (ql+1) c7 (grp v (rs.take (i'+1)))
   rw [htake]
   unfold grp at o7 ⊢
   rw [List.filter_append]
   simpa [hI] using o7
  ·rintro _ ⟨⟨q2,ql2,qc2⟩,u⟩ w4 ⟨o4,k4⟩
   simp only at o4 ⊢
   exact ⟨_,hless,⟨i'+1,ek,by omega,o4,k4⟩,rfl⟩
 ·have hc:i'=l:=by
   have:¬ (i':Int)<(l:Int):=by simpa using hc
   omega
  subst hc
  rw [List.take_of_length_le (by omega)] at o1
  have e:=o1.length
  subst e
  exact Ret_nil.2 (hK q qc w1 o1 k1)
end group
def dn (rs:List Rec):Bool:=rs.any fun x=>x.kind==5
def uLay:Lay Int:=⟨1,fun y=>[.int .u64 y],fun _=>rfl,fun y v hv=>by rw [List.mem_singleton.1 hv];rfl,by decide⟩
theorem uLayT:LayT Tryz.prog uLay 302 39 8:=⟨by kernel_rfl,⟨(Tryz.prog.info? 39).get (by kernel_rfl),((Tryz.prog.info? 39).get (by kernel_rfl)).zero.get (by kernel_rfl),by kernel_rfl,by kernel_rfl,by kernel_rfl,by kernel_rfl,by kernel_rfl⟩⟩
theorem bsl_u1 (x:Int) (w:World):(Instr.buildSlice 302 1 #[(0,.int .u64 x)]).run Tryz.prog w=.ok (.slice (some ⟨w.heap.size,0,none⟩) 1 1) (w.alloc (.cells #[.int .u64 x] 39)) :=
 run_buildSlice w 302 39 1 _ #[.int .u64 x] ((Tryz.prog.info? 39).get (by kernel_rfl)) (((Tryz.prog.info? 39).get (by kernel_rfl)).zero.get (by kernel_rfl)) (by kernel_rfl) (by kernel_rfl) (by kernel_rfl) (by decide +kernel) (by decide +kernel) (by kernel_rfl)
theorem recSl_of {w:World} {p:Option Addr} {l:Nat} {rs:List Rec} (h:SlL rLay w p l rs):RecSl w p l rs:=by
 refine ⟨h.1,fun i hi=>⟨rfl,?_⟩⟩
 have hlt:i<rs.length:=by have:=h.1;omega
 obtain ⟨b,o,hp,hc⟩:=h.2 i (rs[i]) (List.getElem?_eq_getElem hlt)
 refine ⟨b,o,hp,fun j hj=>?_⟩
 have e:rs.getD i default=rs[i]:=by rw [List.getD_eq_getElem?_getD,List.getElem?_eq_getElem hlt];rfl
 show _=(recL (rs.getD i default))[j]?
 rw [e]
 exact hc j hj
section calls
variable {w:World} {R:Value→World→Prop}
theorem bits_small {x:Int} (h:x=0∨x=1) (hK:∀ n,R (.int .i64 n) w):zB Tryz.prog 251 #[.int .u64 x] w R:=by
 apply C_bits_Len
 unfold F_bits_Len
 apply C_bits_Len64
 unfold F_bits_Len64
 rcases h with rfl | rfl
 ·refine (Cb_false (p:=_)).2 ((Cb_false (p:=_)).2 ((Cb_false (p:=_)).2 ⟨0,by decide,by kernel_rfl,Ret_nil.2 (zA.2 (Ret_nil.2 (hK _)))⟩))
 ·refine (Cb_false (p:=_)).2 ((Cb_false (p:=_)).2 ((Cb_false (p:=_)).2 ⟨1,by decide,by kernel_rfl,Ret_nil.2 (zA.2 (Ret_nil.2 (hK _)))⟩))
theorem sort_small {p:Option Addr} {l c:Nat} (hl:l≤1) (hK:R (.tuple #[]) w):zB Tryz.prog 203 #[.slice p l c] w R:=by
 apply C_slices_Sort_uint64
 unfold F_slices_Sort_uint64
 have hl':((l:Nat):Int)=0∨((l:Nat):Int)=1:=by omega
 generalize ((l:Nat):Int)=x at *
 have hx:IntKind.wrap .u64 x=x:=wrapN (by show (0:Int)≤x;omega) (by show x≤18446744073709551615;omega)
 rw [hx]
 refine bits_small hl' fun n=>zA.2 ?_
 apply C_slices_pdqsortOrdered_uint64
 unfold F_slices_pdqsortOrdered_uint64
 refine LoopC_of (σ:=Int×Int×Int×Bool×Bool×Unit) (fun st w'=>st.1=0∧st.2.1=x∧w'=w) (fun _ _=>0) ⟨rfl,rfl,rfl⟩ ?_
 rintro _ ⟨a,b,lim,g1,g2,u⟩ w1 ⟨ha,hb,rfl⟩
 simp only at ha hb ⊢
 subst ha hb
 have e:decide (IntKind.wrap .i64 (b-0)≤12)=true:=by rw [wrapI (by omega) (by omega)];exact decide_eq_true (by omega)
 rw [e]
 refine (Cb_true (q:=_)).2 ?_
 apply C_slices_insertionSortOrdered_uint64
 unfold F_slices_insertionSortOrdered_uint64
 refine LoopC_of (σ:=Int×Unit) (fun st w'=>st.1=1∧w'=w1) (fun _ _=>0) ⟨by show IntKind.wrap .i64 ((0:Int)+1)=1;decide,rfl⟩ ?_
 rintro _ ⟨i,u⟩ w2 ⟨hi,rfl⟩
 simp only at hi ⊢
 subst hi
 rw [decide_eq_false (show ¬ (1:Int)<b by omega)]
 exact (Cb_false (p:=_)).2 (Ret_nil.2 (Ret_nil.2 (Ret_nil.2 hK)))
theorem under_done:Tryz.prog.underlying 297=some (.map 39 130):=by kernel_rfl
theorem under_grps:Tryz.prog.underlying 298=some (.map 39 75):=by kernel_rfl
theorem under_u64:Tryz.prog.underlying 39=some (.int .u64):=by kernel_rfl
end calls
theorem own_has {α:Type} {L:Lay α} {w:World} {base:Nat} {e:TypeId} {p:Option Addr} {l c:Nat} {xs:List α} (h:OwnL L w base e p l c xs):∀ k o,p=some ⟨k,o,none⟩→o=0∧∃ cur,Has w k (.cells cur e (0,0)):=fun k o hk=>by
 rcases Own.cases h with ⟨h0,_⟩ | ⟨b',cur,h0,hb,hg,_⟩
 ·rw [h0] at hk;cases hk
 ·rw [h0] at hk;cases hk;exact ⟨rfl,cur,hg⟩
theorem SetAt.pow {w w':World} {q:SB} {s:SS} {S:Nat→Prop} {pw:Pow} (h:SetAt w q s) (k:Keep S w w') (hS:∀ i,SFoot q i→S i→i=q.m) (hm:MaAt w' q.m pw):SetAt w' q ⟨s.ds,pw⟩:=by
 refine ⟨hm,h.geo,h.len,h.num,fun i br D hb hD=>?_,h.nodb,h.nodr⟩
 obtain ⟨h1,h2⟩:=h.disks i br D hb hD
 obtain ⟨n1,n2⟩:=h1.nem h.main
 refine ⟨h1.keep k (fun e=>n1 (hS _ (Or.inr (Or.inl ?_)) e)) (fun e=>n2 (hS _ (Or.inr (Or.inr ?_)) e)),h2⟩
 ·exact List.mem_map.2 ⟨br,List.mem_of_getElem? hb,rfl⟩
 ·exact List.mem_map.2 ⟨br,List.mem_of_getElem? hb,rfl⟩
section calls
variable {w:World} {R:Value→World→Prop}
def recsI (v:Int) (xs:List PutS):List Rec:=xs.map (recI v)++[recK 4 v]
def RcOk (r:Rec):Prop:=recGood r=true∧(0≤r.ver∧r.ver≤18446744073709551615)∧SecOk r.data
theorem recI_ok {v:Int} (hv:0≤v∧v≤18446744073709551615) {x:PutS} (h:InR x) (hd:SecOk x.cel.data):RcOk (recI v x):=by
 obtain ⟨⟨a1,a2⟩,a3,a4⟩:=h
 refine ⟨?_,hv,hd⟩
 show (decide (1≤(3:Int)) && decide ((3:Int)≤6) && decide (0≤x.plc.dk*1024+x.plc.at_) && decide (x.plc.dk*1024+x.plc.at_≤2147483647))=true
 rw [decide_eq_true (show 0≤x.plc.dk*1024+x.plc.at_ by omega),decide_eq_true (show x.plc.dk*1024+x.plc.at_≤2147483647 by omega)]
 rfl
theorem sec0_okI:SecOk (sec []):=sec_ok (by simp)
theorem recs_scan {rs:List Rec} (h:∀ r∈rs,RcOk r):scanB (rs.flatMap packB)=rs:=by
 have hl:(rs.flatMap packB).length=37*rs.length:=by
  clear h
  induction rs with
  | nil=>rfl
  | cons y ys ih=>rw [List.flatMap_cons,List.length_append,len_pk,ih,List.length_cons];omega
 have:=scan_packs rs [] ((rs.flatMap packB).length+1) h (by decide) (by omega)
 rw [List.append_nil] at this
 exact this
theorem recs_by {rs:List Rec} (h:∀ r∈rs,RcOk r):By (rs.flatMap packB):=fun x hx=>by
 obtain ⟨r,hr,hx⟩:=List.mem_flatMap.1 hx
 exact by_packB (h r hr).2.2 x hx
theorem recs_len (rs:List Rec):(rs.flatMap packB).length=37*rs.length:=by
 induction rs with
 | nil=>rfl
 | cons y ys ih=>rw [List.flatMap_cons,List.length_append,len_pk,ih,List.length_cons];omega
theorem recsI_ok {v:Int} (hv:0≤v∧v≤18446744073709551615) {xs:List PutS} (h:∀ x∈xs,InR x∧SecOk x.cel.data):∀ r∈recsI v xs,RcOk r:=fun r hr=>by
 unfold recsI at hr
 rcases List.mem_append.1 hr with hr | hr
 ·obtain ⟨x,hx,rfl⟩:=List.mem_map.1 hr
  exact recI_ok hv (h x hx).1 (h x hx).2
 ·rw [List.mem_singleton.1 hr]
  exact ⟨rfl,hv,sec0_okI⟩
end calls
end Go.Proofs
namespace Go.Proofs
open Go.Ev
set_option maxRecDepth 100000
def F_reserve_New  (w:World) (R:Value→World→Prop):Prop :=
 DoQ Tryz.prog (Instr.build 229 #[]) (At w) fun v=>OpA 19 v fun cs=>Alc 229 cs w fun b w=>Ret [] (R (.pointer (some ⟨b,0,none⟩)) w)
theorem C_reserve_New  {w:World} {R:Value→World→Prop} (h:F_reserve_New  w R):zB Tryz.prog 72 #[] w R:=by
 exact zE (args:=[]) (mkAnn [] [] [] [] []) zD Tryz.func72 rfl rfl (by kernel_rfl) h
def F_reserve_Desk_in (d:Nat) (init:Int) (w:World) (R:Value→World→Prop):Prop :=
 Req (true=true) (Req (true=true) (Req ((decide (init≥0))=(decide (init≥0))) (Req ((decide (init≥0))=(decide (init≥0))) (Ret [] (R (.bool (cond (decide
 (init≥0)) (decide (init<16)) false)) w)))))
theorem C_reserve_Desk_in {d:Nat} {init:Int} {w:World} {R:Value→World→Prop} (h:F_reserve_Desk_in d init w R):zB Tryz.prog 223 #[.pointer (some ⟨d,0,none⟩),.int .i64 init] w R:=by
 exact zE (args:=[.pointer (some ⟨d,0,none⟩),.int .i64 init]) (mkAnn [] [] [] [] []) zD Tryz.func223 rfl rfl (by kernel_rfl) h
def F_reserve_Desk_wipe (d:Nat) (w:World) (R:Value→World→Prop):Prop :=
 DoQ Tryz.prog (Instr.build 227 #[]) (At w) fun v=>OpA 16 v fun cs=>StA 16 d 0 cs w fun w=>StV d 17 (.int .i64 0) w fun w=>StV d 16 (.int .i64 0) w fun w=>Ret []
 (R (.tuple #[]) w)
theorem C_reserve_Desk_wipe {d:Nat} {w:World} {R:Value→World→Prop} (h:F_reserve_Desk_wipe d w R):zB Tryz.prog 162 #[.pointer (some ⟨d,0,none⟩)] w R:=by
 exact zE (args:=[.pointer (some ⟨d,0,none⟩)]) (mkAnn [] [] [] [] []) zD Tryz.func162 rfl rfl (by kernel_rfl) h
def F_reserve_Desk_May (d:Nat) (init:Int) (write:Bool) (w:World) (R:Value→World→Prop):Prop :=
 zB Tryz.prog 223 #[.pointer (some ⟨d,0,none⟩),.int .i64 init] w fun v w=>OpB v fun g=>Cb (!g) (Ret [] (R (.bool false) w)) (LdV d 17 (At w) fun v1=>OpI .i64 v1
 fun n=>Cb (n==0) (Ret [] (R (.bool true) w)) (LdV d 16 (At w) fun v2=>OpI .i64 v2 fun n1=>Cb (n1==init) (Ret [] (R (.bool true) w)) (LdV d 17 (At w) fun v3 =>
 OpI .i64 v3 fun n2=>Cb (n2==1) (Ret [] (R (.bool (!write)) w)) (Cb (n2==3) (Cb (!write) (Ret [] (R (.bool true) w)) (Req (0≤init∧init<16) (LdV d (0+Int.toNat
 init*1) (At w) fun v4=>OpI .u64 v4 fun n3=>Ret [] (R (.bool (n3 !=0)) w)))) (Cb (n2==4) (Req (0≤init∧init<16) (LdV d (0+Int.toNat init*1) (At w) fun v5
 => OpI .u64 v5 fun n4=>Ret [] (R (.bool (n4 !=0)) w))) (Ret [] (R (.bool false) w)))))))
theorem C_reserve_Desk_May {d:Nat} {init:Int} {write:Bool} {w:World} {R:Value→World→Prop} (h:F_reserve_Desk_May d init write w R):zB Tryz.prog 148 #[.pointer (some ⟨d,0,none⟩),.int .i64 init,.bool write] w R:=by
 exact zE (args:=[.pointer (some ⟨d,0,none⟩),.int .i64 init,.bool write]) (mkAnn [] [] [] [] []) zD Tryz.func148 rfl rfl (by kernel_rfl) h
def F_reserve_Desk_Lose (d:Nat) (w:World) (R:Value→World→Prop):Prop :=
 LdV d 18 (At w) fun v=>OpB v fun g=>Cb (!g) (zB Tryz.prog 162 #[.pointer (some ⟨d,0,none⟩)] w fun v1 w=>Ret [] (R (.tuple #[]) w)) (Ret [] (R (.tuple #[]) w))
theorem C_reserve_Desk_Lose {d:Nat} {w:World} {R:Value→World→Prop} (h:F_reserve_Desk_Lose d w R):zB Tryz.prog 88 #[.pointer (some ⟨d,0,none⟩)] w R:=by
 exact zE (args:=[.pointer (some ⟨d,0,none⟩)]) (mkAnn [] [] [] [] []) zD Tryz.func88 rfl rfl (by kernel_rfl) h
end Go.Proofs
namespace Go.Proofs
open Go Go.Ev
set_option maxRecDepth 100000
structure Dk where
 key:Nat→Int
 holder:Int
 kind:Int
 keep:Bool
def dkF (d:Dk) (i:Nat):Value:=if i<16 then .int .u64 (d.key i) else if i=16 then .int .i64 d.holder else if i=17 then .int .i64 d.kind else .bool d.keep
def dkC (d:Dk):Array Value:=ofF 19 (dkF d)
def DkAt (w:World) (b:Nat) (d:Dk):Prop:=Has w b (.cells (dkC d) 229 (0,0))
def dk0:Dk:=⟨fun _=>0,0,0,false⟩
def inD (i:Int):Prop:=0≤i∧i<16
instance (i:Int):Decidable (inD i):=by unfold inD;infer_instance
def wipeD (d:Dk):Dk:=⟨fun _=>0,0,0,d.keep⟩
def mayD (d:Dk) (i:Int) (wr:Bool):Bool :=
 if ¬ inD i then false else if d.kind=0 then true else if d.holder=i then true
 else if d.kind=1 then !wr else if d.kind=3 then !wr || decide (d.key i.toNat≠0) else if d.kind=4 then decide (d.key i.toNat≠0) else false
def loseD (d:Dk):Dk:=if d.keep=true then d else wipeD d
theorem dk_size (d:Dk):(dkC d).size=19:=by simp [dkC]
theorem dk_key {d:Dk} {i:Int} (h:inD i):(dkC d)[0+Int.toNat i*1]? = some (.int .u64 (d.key i.toNat)):=by
 have:0+Int.toNat i*1=i.toNat:=by omega
 unfold inD at h
 rw [this,dkC,get_ofF _ (by omega)]
 unfold dkF
 rw [if_pos (by omega)]
theorem dk_holder (d:Dk):(dkC d)[16]? = some (.int .i64 d.holder):=by rw [dkC,get_ofF _ (by decide)];rfl
theorem dk_kind (d:Dk):(dkC d)[17]? = some (.int .i64 d.kind):=by rw [dkC,get_ofF _ (by decide)];rfl
theorem dk_keep (d:Dk):(dkC d)[18]? = some (.bool d.keep):=by rw [dkC,get_ofF _ (by decide)];rfl
theorem dk_set {d e:Dk} {k:Nat} {v:Value} (hk:k<19) (h:∀ i,i<19→dkF e i=if i=k then v else dkF d i):(dkC d).setIfInBounds k v=dkC e:=by
 rw [dkC,set_ofF,dkC]
 exact ofF_congr fun i hi=>(h i hi).symm
theorem dk_setH (d:Dk) (x:Int):(dkC d).setIfInBounds 16 (.int .i64 x)=dkC { d with holder:=x }:=dk_set (by decide) fun j hj=>by
 by_cases h2:j=16
 ·subst h2;rfl
 ·rw [if_neg h2]
  unfold dkF
  by_cases h1:j<16
  ·rw [if_pos h1,if_pos h1]
  ·rw [if_neg h1,if_neg h1,if_neg h2,if_neg h2]
theorem dk_setN (d:Dk) (x:Int):(dkC d).setIfInBounds 17 (.int .i64 x)=dkC { d with kind:=x }:=dk_set (by decide) fun j hj=>by
 by_cases h2:j=17
 ·subst h2;rfl
 ·rw [if_neg h2]
  unfold dkF
  by_cases h1:j<16
  ·rw [if_pos h1,if_pos h1]
  ·rw [if_neg h1,if_neg h1]
   by_cases h3:j=16
   ·rw [if_pos h3,if_pos h3]
   ·rw [if_neg h3,if_neg h3,if_neg h2,if_neg h2]
section calls
variable {w:World} {b:Nat} {d:Dk} {R:Value→World→Prop}
theorem DkAt.put (h:DkAt w b d) {k:Nat} {v:Value} {e:Dk} (hs:(dkC d).setIfInBounds k v=dkC e) (hk:k<19) (h1:oneV v=true) {K:World→Prop} (hK:DkAt (w.upd b (.cells (dkC e) 229 (0,0))) b e→Keep (fun i=>i=b) w (w.upd b (.cells (dkC e) 229 (0,0)))→K (w.upd b (.cells (dkC e) 229 (0,0)))):StV b k v w K:=by
 refine StV_of h (by rw [dk_size];exact hk) h1 ?_
 rw [hs]
 exact hK (Has.upd_same h _) (Keep.one _ _ _)
theorem rs_New (hK:∀ w',DkAt w' w.heap.size dk0→Keep (fun _=>False) w w'→w'.heap.size=w.heap.size+1→R (.pointer (some ⟨w.heap.size,0,none⟩)) w'):zB Tryz.prog 72 #[] w R:=by
 apply C_reserve_New
 unfold F_reserve_New
 refine DoQ_of (v:=.agg (dkC dk0)) (fun _=>run_build _ _ _ _ (by kernel_rfl)) (OpA_agg.2 ⟨dk_size _,?_⟩)
 rw [Alc_iff]
 exact Ret_nil.2 (hK _ (Has.new _ _) (Keep.new _ _ _) (by simp))
theorem rs_in (i:Int) (hK:R (.bool (decide (inD i))) w):zB Tryz.prog 223 #[.pointer (some ⟨b,0,none⟩),.int .i64 i] w R:=by
 apply C_reserve_Desk_in
 unfold F_reserve_Desk_in
 refine ⟨by trivial,by trivial,by trivial,by trivial,Ret_nil.2 ?_⟩
 have e:(cond (decide (i≥0)) (decide (i<16)) false)=decide (inD i):=by
  unfold inD
  by_cases h:0≤i
  ·simp [h]
  ·simp [h]
 rw [e];exact hK
theorem rs_wipe (h:DkAt w b d) (hK:∀ w',DkAt w' b (wipeD d)→Keep (fun k=>k=b) w w'→R (.tuple #[]) w'):zB Tryz.prog 162 #[.pointer (some ⟨b,0,none⟩)] w R:=by
 apply C_reserve_Desk_wipe
 unfold F_reserve_Desk_wipe
 refine DoQ_of (v:=.agg (ofF 16 fun _=>.int .u64 0)) (fun _=>run_build _ _ _ _ (by kernel_rfl)) (OpA_agg.2 ⟨by simp,?_⟩)
 refine StA_of h (by simp) (by rw [dk_size];decide) (by
  intro v hv
  have:v∈(List.range 16).map fun _=>Value.int .u64 0:=by simpa [ofF] using hv
  obtain ⟨_,_,rfl⟩:=List.mem_map.1 this
  rfl) ?_
 have e:spl (dkC d) 0 (ofF 16 fun _=>.int .u64 0)=dkC { d with key:=fun _=>0 }:=by
  unfold spl dkC ofF
  simp only [List.size_toArray,List.length_map,List.length_range]
  rfl
 rw [e]
 have h1:DkAt (w.upd b (.cells (dkC { d with key:=fun _=>0 }) 229 (0,0))) b { d with key:=fun _=>0 }:=Has.upd_same h _
 have k1:=Keep.one w b (.cells (dkC { d with key:=fun _=>0 }) 229 (0,0))
 exact h1.put (dk_setN _ 0) (by decide) rfl fun h2 k2=>h2.put (dk_setH _ 0) (by decide) rfl fun h3 k3=>Ret_nil.2 (hK _ h3 ((k1.trans k2).trans k3))
theorem rs_Lose (h:DkAt w b d) (hK:∀ w',DkAt w' b (loseD d)→Keep (fun k=>k=b) w w'→R (.tuple #[]) w'):zB Tryz.prog 88 #[.pointer (some ⟨b,0,none⟩)] w R:=by
 apply C_reserve_Desk_Lose
 unfold F_reserve_Desk_Lose
 unfold loseD at hK
 refine LdV_has h (dk_keep d) (OpB_bool.2 ?_)
 refine Cb_of (fun h1=>?_) (fun h1=>?_)
 ·rw [if_neg (by simpa using h1)] at hK
  exact rs_wipe h fun w' h' k'=>Ret_nil.2 (hK w' h' k')
 ·rw [if_pos (by simpa using h1)] at hK
  exact Ret_nil.2 (hK w h (Keep.refl _ _))
theorem rs_May (h:DkAt w b d) (i:Int) (wr:Bool) (hK:R (.bool (mayD d i wr)) w):zB Tryz.prog 148 #[.pointer (some ⟨b,0,none⟩),.int .i64 i,.bool wr] w R:=by
 apply C_reserve_Desk_May
 unfold F_reserve_Desk_May
 refine rs_in i (OpB_bool.2 ?_)
 unfold mayD at hK
 refine Cb_of (fun hc=>?_) (fun hc=>?_)
 ·rw [if_pos (by simpa using hc)] at hK
  exact Ret_nil.2 hK
 have hc:inD i:=by simpa using hc
 rw [if_neg (fun hn=>hn hc)] at hK
 refine LdV_has h (dk_kind d) (zA.2 ?_)
 refine Cb_of (fun h1=>?_) (fun h1=>?_)
 ·rw [if_pos (by simpa using h1)] at hK
  exact Ret_nil.2 hK
 rw [if_neg (by simpa using h1)] at hK
 refine LdV_has h (dk_holder d) (zA.2 ?_)
 refine Cb_of (fun h2=>?_) (fun h2=>?_)
 ·rw [if_pos (by simpa using h2)] at hK
  exact Ret_nil.2 hK
 rw [if_neg (by simpa using h2)] at hK
 refine LdV_has h (dk_kind d) (zA.2 ?_)
 refine Cb_of (fun h3=>?_) (fun h3=>?_)
 ·rw [if_pos (by simpa using h3)] at hK
  exact Ret_nil.2 hK
 rw [if_neg (by simpa using h3)] at hK
 have en:∀ x:Int,(x !=0)=decide (x≠0):=fun x=>by by_cases h:x=0 <;> simp [h]
 refine Cb_of (fun h4=>?_) (fun h4=>?_)
 ·rw [if_pos (by simpa using h4)] at hK
  refine Cb_of (fun h5=>?_) (fun h5=>?_)
  ·rw [h5,Bool.true_or] at hK
   exact Ret_nil.2 hK
  ·rw [h5,Bool.false_or] at hK
   refine ⟨hc,LdV_has h (dk_key hc) (zA.2 (Ret_nil.2 ?_))⟩
   rw [en];exact hK
 rw [if_neg (by simpa using h4)] at hK
 refine Cb_of (fun h5=>?_) (fun h5=>?_)
 ·rw [if_pos (by simpa using h5)] at hK
  refine ⟨hc,LdV_has h (dk_key hc) (zA.2 (Ret_nil.2 ?_))⟩
  rw [en];exact hK
 ·rw [if_neg (by simpa using h5)] at hK
  exact Ret_nil.2 hK
end calls
end Go.Proofs
namespace Go.Ev
open Go
def CallDV (P:Program) (f:FuncId) (args:Array Value) (w:World) (K:World→Prop):Prop :=
 CallsD P f args .returning w fun e u w'=>(∃ v,e=.returned v)∧u=.returning∧K w'
def leav (P:Program) (R:World→Prop):List Deferred→World→Prop
 | [],w=>R w
 | d::ds,w=>match d.target with
  | .fn (.func f) ca=>cond (okCall P f) (CallDV P f (d.args.toList++ca.toList).toArray w fun w=>leav P R ds w) False
  | _=>False
def retQD (P:Program) (fn:Func) (R:Value→World→Prop):Exit→Env→World→Prop
 | .normal,e,w=>leav P (fun w=>rets P fn.results.toList e w fun vs=>R (one vs) w) e.d w
 | .ret,e,w=>leav P (fun w=>rets P fn.results.toList e w fun vs=>R (one vs) w) e.d w
 | _,_,_=>False
section
variable {P:Program} {A:Ann} {n:Nat}
theorem leaves_of {fn:Func} {tmps:Array Value} {R:World→Prop} {R':Ending→World→Prop} (hR:∀ w,R w→∃ v,(results fn tmps).run P w=.ok v w∧R' (.returned v) w) :
  ∀ (ds:List Deferred) (w:World),leav P R ds w→Leaves P fn tmps R' ds .returning w
 | [],w,h=>hR w h
 | d::ds,w,h=>by
  obtain ⟨t,az⟩:=d
  unfold leav at h
  split at h
  ·rename_i f ca ht
   simp only at ht
   subst ht
   cases hk:okCall P f
   ·rw [hk] at h;exact h.elim
   ·rw [hk] at h
    simp only [cond_true] at h
    have e1:(az.toList++ca.toList).toArray=az++ca:=by apply Array.ext';simp
    rw [e1] at h
    refine ⟨by simp,.func f,ca,f,az++ca,rfl,?_,?_⟩
    ·simp only [invoke]
     exact okCall_run hk _ _
    ·refine CallsD.mono h fun e u' w' hh=>?_
     obtain ⟨⟨v,rfl⟩,rfl,hK⟩:=hh
     exact leaves_of hR ds w' hK
  ·exact h.elim
theorem results_ofD {fn:Func} {e:Env} {a:Act} {w:World} {R:Value→World→Prop} (hr:Rel n e a) (h:rets P fn.results.toList e w fun vs=>R (one vs) w) :
  ∃ v,(results fn a.tmps).run P w=.ok v w∧R v w:=by
 obtain ⟨vs,hvs,h⟩:=rets_of _ hr h
 refine ⟨_,?_,h⟩
 have e1:results fn a.tmps=(do let vs ← fn.results.mapM (resOf a.tmps);pure (if h:vs.size=1 then vs[0] else .tuple vs)):=rfl
 rw [e1,← Array.toArray_toList (xs:=fn.results),List.mapM_toArray]
 simp only [Sem.run_bind,map_eq_pure_bind,hvs,Result.andThen_ok,Sem.run_pure]
 congr 1
 match vs with
 | []=>rfl
 | [v]=>rfl
 | _::_::_=>simp [one]
theorem calls_of_denD {f:FuncId} {fn:Func} {c:Code} {args:List Value} {w:World} {R:Value→World→Prop} (A:Ann) (hm:P.follows .mixedOrders=true)
  (hf:P.funcs[f]? = some fn) (hb:fn.body=some c) (hargs:Nat.ble args.length fn.ntmps=true) (h:den P A fn.ntmps c (retQD P fn R) (env0 args) w):zB P f args.toArray w R:=by
 have hle:args.length≤fn.ntmps:=Nat.le_of_ble_eq_true hargs
 refine calls_of_wp_defers hf hb ?_
 have hr:Rel fn.ntmps (env0 args) { tmps:=args.toArray++Array.replicate (fn.ntmps-args.toArray.size) undef,defers:=[] }:=by
  refine ⟨by simp;omega,fun i=>?_,rfl⟩
  simp only [env0,SV.v,Array.getD_eq_getD_getElem?,Array.getElem?_append,List.size_toArray,List.getElem?_toArray,Array.getElem?_replicate]
  by_cases hi:i<args.length
  ·simp [hi]
  ·rw [if_neg hi,List.getElem?_eq_none (by omega)]
   split <;> rfl
 refine wp_mono (den_of hm c _ _ _ w (codeOps c) _ (fun _ h=>h) (Off.refl _ _) hr h) fun q a' w' ⟨e',hr',_,h'⟩=>?_
 cases q <;> first
  | exact h'.elim
  | (show Leaves P fn a'.tmps _ a'.defers .returning w'
     rw [hr'.d]
     exact leaves_of (fun w hw=>by
      obtain ⟨v,hv,hR⟩:=results_ofD hr' hw
      exact ⟨v,hv,v,rfl,hR⟩) _ _ h')
theorem calls_of_FD {f:FuncId} {fn:Func} {args:List Value} {w:World} {R:Value→World→Prop} {F:Prop} (A:Ann) (hm:P.follows .mixedOrders=true)
  (hf:P.funcs[f]? = some fn) (hb:fn.body.isSome=true) (hargs:Nat.ble args.length fn.ntmps=true) (hF:den P A fn.ntmps (bodyOf fn) (retQD P fn R) (env0 args) w=F) (h:F) :
  zB P f args.toArray w R:=by
 subst hF
 cases hc:fn.body with
 | none=>rw [hc] at hb;cases hb
 | some c =>
  have he:bodyOf fn=c:=by unfold bodyOf;rw [hc]
  rw [he] at h
  exact calls_of_denD A hm hf hc hargs h
open Go.Conc.Locks in
theorem mu_lock {L:MuLink} (H:MuLib P L) {b o:Nat} {c:Array Value} {t:TypeId} {w:World} {R:Value→World→Prop} (h:Has w b (.cells c t (0,0))) (hc:c[o]? = some (.int .i32 0))
  (hR:R (.tuple #[]) (w.upd b (.cells (c.setIfInBounds o (.int .i32 1)) t (0,0)))):zB P L.lock #[.pointer (some ⟨b,o,none⟩)] w R:=by
 refine Calls.mono (Go.MuLone.lock_free H ⟨b,o,none⟩ w (by rw [cell_of h];exact hc) (frozen_of h)) fun e w' hh=>?_
 obtain ⟨rfl,rfl⟩:=hh
 refine ⟨_,rfl,?_⟩
 rw [setCell_upd h]
 exact hR
open Go.Conc.Locks in
theorem mu_unlock {L:MuLink} (H:MuLib P L) {b o:Nat} {c:Array Value} {t:TypeId} {w:World} {K:World→Prop} (h:Has w b (.cells c t (0,0))) (hc:c[o]? = some (.int .i32 1))
  (hK:K (w.upd b (.cells (c.setIfInBounds o (.int .i32 0)) t (0,0)))):CallDV P L.unlock #[.pointer (some ⟨b,o,none⟩)] w K:=by
 refine CallsD.mono (Go.MuLone.unlock_deferred H ⟨b,o,none⟩ .returning w (by rw [cell_of h];exact hc) (frozen_of h)) fun e u w' hh=>?_
 obtain ⟨rfl,rfl,rfl⟩:=hh
 refine ⟨⟨_,rfl⟩,rfl,?_⟩
 rw [setCell_upd h]
 exact hK
end
end Go.Ev
namespace Go.Proofs
abbrev Tryz.muLink:Go.Conc.Locks.MuLink:={ lock:=75,unlock:=76,ilock:=141,iunlock:=142,lockSlow:=217,unlockSlow:=220,disable:=213,enable:=215,acquire:=216,relMerge:=218,cas32:=214,add32:=219,tMutex:=135,tIMutex:=133,tPMutex:=231,tPIMutex:=318,tPI32:=320,tUP:=322,tNoCopy:=131,tU32:=62 }
theorem Tryz.muLib:Go.Conc.Locks.MuLib Tryz.prog Tryz.muLink :=
 ⟨Tryz.func75,Tryz.func76,Tryz.func141,Tryz.func142,Tryz.func213,Tryz.func215,Tryz.func216,Tryz.func218,Tryz.func214,Tryz.func219,Tryz.underlying133,Tryz.runUnderlying133,Tryz.sizeOf133,Tryz.isAgg133,Tryz.zeroValue133,Tryz.underlying135,Tryz.runUnderlying135,Tryz.sizeOf135,Tryz.isAgg135,Tryz.zeroValue135,Tryz.underlying231,Tryz.runUnderlying231,Tryz.sizeOf231,Tryz.isAgg231,Tryz.zeroValue231,Tryz.underlying318,Tryz.runUnderlying318,Tryz.sizeOf318,Tryz.isAgg318,Tryz.zeroValue318,Tryz.underlying320,Tryz.runUnderlying320,Tryz.sizeOf320,Tryz.isAgg320,Tryz.zeroValue320,Tryz.underlying322,Tryz.runUnderlying322,Tryz.sizeOf322,Tryz.isAgg322,Tryz.zeroValue322,Tryz.underlying131,Tryz.runUnderlying131,Tryz.sizeOf131,Tryz.isAgg131,Tryz.zeroValue131,Tryz.underlying21,Tryz.runUnderlying21,Tryz.sizeOf21,Tryz.isAgg21,Tryz.zeroValue21,by kernel_rfl⟩
end Go.Proofs
namespace Go.Proofs
open Go Go.Ev
set_option maxRecDepth 100000
def pw0:Pow:=⟨true,0,0⟩
theorem lit0:Lit0 pw0:=⟨rfl,rfl⟩
section calls
variable {w:World} {R:Value→World→Prop}
end calls
def g4:Geo:=⟨4,1,2⟩
theorem g4_ok:GeoOk g4:=⟨by decide,by decide,by decide⟩
section calls
variable {w:World} {R:Value→World→Prop}
end calls
section calls
variable {w0 w w':World} {g:Geo} {b2 b3 m:Nat} {bks:List (Nat×Nat)} {p:Option Addr} {c:Nat} {pr:Option Addr} {cr:Nat} {xs:List (Nat×Nat×Nat)}
end calls
theorem cache_Len {c m:Nat} {room:Int} {es:List (Int×Ent)} {w:World} {R:Value→World→Prop} (h:CacheAt w c m room es) (hK:R (.int .i64 es.length) w) :
  zB Tryz.prog 83 #[.pointer (some ⟨c,0,none⟩)] w R:=by
 apply C_cache_Cache_Len
 unfold F_cache_Cache_Len
 refine LdV_has (v:=.map (some m)) h.1 rfl ?_
 simp only [OpM_map]
 refine DoQ_of (fun d=>run_lenm under_map (h.2.dr d)) ?_
 simpa using hK
end Go.Proofs
namespace Go.Proofs
open Go.Ev
set_option maxRecDepth 100000
def F_array_New (g:Array Value) (room:Int) (w:World) (R:Value→World→Prop):Prop :=
 Alc 24 g w fun b w=>LdA 3 b 0 (At w) fun cs=>zB Tryz.prog 71 #[.agg cs] w fun v w=>OpI .i64 v fun n=>Cb (n !=0) (Ret [] (R (.tuple #[.pointer none,.int .i64
 n]) w)) (Req ((decide (room<1))=(decide (room<1))) (Req ((decide (room<1))=(decide (room<1))) (Cb (cond (decide (room<1)) true (decide (room>64))) (Ret []
 (R (.tuple #[.pointer none,.int .i64 2]) w)) (JoinC (σ:=(Nat×Nat)×Unit) (fun J1=>HeldR w fun S w=>LdV b 0 S fun v1=>OpI .i64 v1 fun n1=>(zB Tryz.prog 52
 #[] w fun v2 w=>OpN v2 fun b1 o=>Hld (S w) ((zB Tryz.prog 72 #[] w fun v3 w=>OpN v3 fun b2 o1=>Hld (S w) (DoV Tryz.prog (Instr.makeSlice 69 (.int .i64 n1) (.int
 .i64 n1)) w fun v4 w=>OpS v4 fun p l c=>Hld (S w) (DoQ Tryz.prog (Instr.build 143 #[(1,.pointer (some ⟨b1,o,none⟩)),(6,.pointer (some ⟨b2,o1,none⟩)),(10,.int
 .i64 room),(9,.slice p l c)]) (At w) fun v5=>OpA 21 v5 fun cs1=>Alc 143 cs1 w fun b3 w=>Hld (S w) (J1 ((b3,0),()) w))))∧(DoV Tryz.prog (Instr.makeSlice 69
 (.int .i64 n1) (.int .i64 n1)) w fun v6 w=>OpS v6 fun p1 l1 c1=>Hld (S w) (zB Tryz.prog 72 #[] w fun v7 w=>OpN v7 fun b4 o2=>Hld (S w) (DoQ Tryz.prog
 (Instr.build 143 #[(1,.pointer (some ⟨b1,o,none⟩)),(6,.pointer (some ⟨b4,o2,none⟩)),(10,.int .i64 room),(9,.slice p1 l1 c1)]) (At w) fun v8=>OpA 21 v8 fun cs2
 => Alc 143 cs2 w fun b5 w=>Hld (S w) (J1 ((b5,0),()) w))))))∧(DoV Tryz.prog (Instr.makeSlice 69 (.int .i64 n1) (.int .i64 n1)) w fun v9 w=>OpS v9 fun p2 l2 c2 =>
 Hld (S w) (zB Tryz.prog 52 #[] w fun v10 w=>OpN v10 fun b6 o3=>Hld (S w) (zB Tryz.prog 72 #[] w fun v11 w=>OpN v11 fun b7 o4=>Hld (S w) (DoQ Tryz.prog
 (Instr.build 143 #[(1,.pointer (some ⟨b6,o3,none⟩)),(6,.pointer (some ⟨b7,o4,none⟩)),(10,.int .i64 room),(9,.slice p2 l2 c2)]) (At w) fun v12=>OpA 21 v12 fun
 cs3=>Alc 143 cs3 w fun b8 w=>Hld (S w) (J1 ((b8,0),()) w)))))) (fun _ s1 w=>JoinC (σ:=Unit) (fun J2=>HeldR w fun S w=>LdA 3 b 0 (At w) fun cs4=>LdV s1.1.1
 (s1.1.2+2) (At w) fun v13=>OpN v13 fun b9 o5=>zB Tryz.prog 53 #[.agg cs4,.pointer (some ⟨b9,o5,none⟩)] w fun v14 w=>T2 v14 fun v15 v16=>OpA 4 v15 fun cs5
 => OpI .i64 v16 fun n2=>Hld (S w) (StA 4 s1.1.1 (s1.1.2+3) cs5 w fun w=>Hld (S w) (J2 () w))) (fun _ s2 w=>LoopC (σ:=Int×Unit) (fun _ s3 w K3=>Cb (decide
 (s3.1<2)) (JoinC (σ:=Unit) (fun J4=>HeldR w fun S w=>LdV s1.1.1 (s1.1.2+2) (At w) fun v17=>OpN v17 fun b10 o6=>zB Tryz.prog 54 #[.int .i64 65536,.pointer
 (some ⟨b10,o6,none⟩)] w fun v18 w=>T2 v18 fun v19 v20=>OpN v19 fun b11 o7=>OpI .i64 v20 fun n3=>Hld (S w) (Req (0≤s3.1∧s3.1<2) (StV s1.1.1 (s1.1.2+7 +
 Int.toNat s3.1*1) (.pointer (some ⟨b11,o7,none⟩)) w fun w=>Hld (S w) (J4 () w)))) (fun _ s4 w=>JoinC (σ:=Unit) (fun J5=>HeldR w fun S w=>Req (0≤s3.1∧s3.1
 < 2) (StV s1.1.1 (s1.1.2+13+Int.toNat s3.1*2) (.bool true) w fun w=>Hld (S w) (Req (0≤s3.1∧s3.1<2) (StV s1.1.1 (s1.1.2+10+Int.toNat s3.1*1) (.bool
 true) w fun w=>Hld (S w) (J5 () w))))) (fun _ s5 w=>K3 (IntKind.wrap .i64 (s3.1+1),()) w))) (JoinC (σ:=Unit) (fun J6=>HeldR w fun S w=>Req (0≤(0:Int)∧(0
 : Int)<2) (LdV s1.1.1 (s1.1.2+7+Int.toNat 0*1) (At w) fun v21=>OpN v21 fun b12 o8=>Req (0≤(1:Int)∧(1:Int)<2) (LdV s1.1.1 (s1.1.2+7+Int.toNat 1 *
 1) (At w) fun v22=>OpN v22 fun b13 o9=>zB Tryz.prog 73 #[.pointer (some ⟨b12,o8,none⟩),.pointer (some ⟨b13,o9,none⟩),.int .i64 room] w fun v23 w=>T2 v23 fun
 v24 v25=>OpN v24 fun b14 o10=>OpI .i64 v25 fun n4=>Hld (S w) (StV s1.1.1 (s1.1.2+9) (.pointer (some ⟨b14,o10,none⟩)) w fun w=>Hld (S w) (J6 () w))))) (fun _ s6
 w=>Ret [] (R (.tuple #[.pointer (some ⟨s1.1.1,s1.1.2,none⟩),.int .i64 0]) w)))) (0,()) w))))))
theorem C_array_New {g:Array Value} {room:Int} {w:World} {R:Value→World→Prop} (h:F_array_New g room w R):zB Tryz.prog 13 #[.agg g,.int .i64 room] w R:=by
 exact zE (args:=[.agg g,.int .i64 room]) (mkAnnR [(9,[(40,(.int .i64))])] [] [] [] [20,21,35,50,81,100020,100021,100050,100081] [] [(6,[(7,.ptr)]),(7,[]),(11,[]),(12,[]),(14,[])]) zD Tryz.func13 rfl rfl (by kernel_rfl) h
def F_array_Array_ready (a:Nat) (side:Int) (w:World) (R:Value→World→Prop):Prop :=
 JoinC (σ:=Bool×Unit) (fun J1=>HeldR w fun S w=>Req ((decide (side≥0))=(decide (side≥0))) (Req ((decide (side≥0))=(decide (side≥0))) (Cb (cond (decide
 (side≥0)) (decide (side≤1)) false) (LdV a 2 S fun v=>OpN v fun b o=>zB Tryz.prog 44 #[.pointer (some ⟨b,o,none⟩)] w fun v1 w=>OpB v1 fun g=>Hld (S w) (Cb
 g (LdV a 9 S fun v2=>OpP v2 (Hld (S w) (J1 (false,()) w)) fun b1 o1=>Req (0≤side∧side<2) (LdV a (13+Int.toNat side*2) S fun v3=>OpB v3 fun g1=>Cb g1
 (Req (0≤side∧side<2) (LdV a (13+Int.toNat side*2+1) S fun v4=>OpI .u32 v4 fun n=>LdA 4 a 3 (At w) fun cs=>zB Tryz.prog 42 #[.agg cs] w fun v5 w=>OpI
 .u32 v5 fun n1=>Hld (S w) (J1 (decide (n≥n1),()) w))) (Hld (S w) (J1 (false,()) w)))) (Hld (S w) (J1 (false,()) w)))) (Hld (S w) (Hld (S w) (J1 (false,()) w))))))
 (fun _ s1 w=>Ret [] (R (.bool s1.1) w))
theorem C_array_Array_ready {a:Nat} {side:Int} {w:World} {R:Value→World→Prop} (h:F_array_Array_ready a side w R):zB Tryz.prog 78 #[.pointer (some ⟨a,0,none⟩),.int .i64 side] w R:=by
 exact zE (args:=[.pointer (some ⟨a,0,none⟩),.int .i64 side]) (mkAnnR [] [] [] [] [16,22,46] [] [(1,[(4,.bool)])]) zD Tryz.func78 rfl rfl (by kernel_rfl) h
def F_array_Array_first (a:Nat) (w:World) (R:Value→World→Prop):Prop :=
 LoopC (σ:=Int×Unit) (fun _ s1 w K1=>Cb (decide (s1.1<2)) (zB Tryz.prog 78 #[.pointer (some ⟨a,0,none⟩),.int .i64 s1.1] w fun v w=>OpB v fun g=>Cb g (Ret
 [] (R (.tuple #[.int .i64 s1.1,.bool true]) w)) (K1 (IntKind.wrap .i64 (s1.1+1),()) w)) (Ret [] (R (.tuple #[.int .i64 0,.bool false]) w))) (0,()) w
theorem C_array_Array_first {a:Nat} {w:World} {R:Value→World→Prop} (h:F_array_Array_first a w R):zB Tryz.prog 161 #[.pointer (some ⟨a,0,none⟩)] w R:=by
 exact zE (args:=[.pointer (some ⟨a,0,none⟩)]) (mkAnn [(2,[(5,(.int .i64))])] [] [] [] []) zD Tryz.func161 rfl rfl (by kernel_rfl) h
def F_array_Array_alone (a:Nat) (side:Int) (w:World) (R:Value→World→Prop):Prop :=
 JoinC (σ:=Bool×Unit) (fun J1=>Req (0≤IntKind.wrap .i64 (1-side)∧IntKind.wrap .i64 (1-side)<2) (LdV a (10+Int.toNat (IntKind.wrap .i64 (1-side))*1)
 (At w) fun v=>OpB v fun g=>Cb (!g) (J1 (true,()) w) (Req (0≤IntKind.wrap .i64 (1-side)∧IntKind.wrap .i64 (1-side)<2) (LdV a (13+Int.toNat (IntKind.wrap
 .i64 (1-side))*2) (At w) fun v1=>OpB v1 fun g1=>Cb g1 (LdV a 17 (At w) fun v2=>OpB v2 fun g2=>J1 (!g2,()) w) (J1 (false,()) w))))) (fun _ s1 w=>Cb s1.1
 (Ret [] (R (.int .i64 0) w)) (LdV a 9 (At w) fun v3=>OpN v3 fun b o=>zB Tryz.prog 143 #[.pointer (some ⟨b,o,none⟩),.int .i64 (IntKind.wrap .i64 (1-side))] w
 fun v4 w=>OpI .i64 v4 fun n=>Req (0≤IntKind.wrap .i64 (1-side)∧IntKind.wrap .i64 (1-side)<2) (StV a (10+Int.toNat (IntKind.wrap .i64 (1-side))*1)
 (.bool false) w fun w=>zB Tryz.prog 144 #[.pointer (some ⟨a,0,none⟩)] w fun v5 w=>OpI .i64 v5 fun n1=>Cb (n1 !=0) (Ret [] (R (.int .i64 n1) w)) (HeldR w fun S
 w=>Req (0≤side∧side<2) (LdV a (13+Int.toNat side*2+1) S fun v6=>OpI .u32 v6 fun n2=>LdA 4 a 3 S fun cs=>zB Tryz.prog 42 #[.agg cs] w fun v7 w=>OpI
 .u32 v7 fun n3=>Hld (S w) (DoQ Tryz.prog (Builtin.max_ #[62,62] 62 #[.int .u32 n2,.int .u32 n3]) (At w) fun v8=>OpI .u32 v8 fun n4=>zB Tryz.prog 145 #[.int .u32
 n4,.int .i64 side] w fun v9 w=>T2 v9 fun v10 v11=>OpI .u32 v10 fun n5=>OpI .i64 v11 fun n6=>Hld (S w) (Cb (n6 !=0) (Ret [] (R (.int .i64 n6) w)) (LdV a 9 (At w)
 fun v12=>OpN v12 fun b1 o1=>zB Tryz.prog 146 #[.pointer (some ⟨b1,o1,none⟩),.int .u32 n5] w fun v13 w=>OpI .i64 v13 fun n7=>Cb (n7 !=0) (Ret [] (R (.int
 .i64 n7) w)) (LdA 4 a 3 (At w) fun cs1=>zB Tryz.prog 40 #[.agg cs1,.int .u32 n5] w fun v14 w=>OpI .i64 v14 fun n8=>Req (0≤side∧side<2) (StV a (13 +
 Int.toNat side*2+1) (.int .u32 n5) w fun w=>Ret [] (R (.int .i64 0) w)))))))))))
theorem C_array_Array_alone {a:Nat} {side:Int} {w:World} {R:Value→World→Prop} (h:F_array_Array_alone a side w R):zB Tryz.prog 79 #[.pointer (some ⟨a,0,none⟩),.int .i64 side] w R:=by
 exact zE (args:=[.pointer (some ⟨a,0,none⟩),.int .i64 side]) (mkAnnR [] [] [] [] [63] [] [(2,[(34,.bool)])]) zD Tryz.func79 rfl rfl (by kernel_rfl) h
def F_array_Array_shorten (a:Nat) (w:World) (R:Value→World→Prop):Prop :=
 LdA 2 a 7 (At w) fun cs=>LoopC (σ:=Int×Unit) (fun _ s1 w K1=>Cb (decide (s1.1<2)) (Req (0≤s1.1∧s1.1<2) (Fld cs (Int.toNat s1.1*1) fun v=>OpN v fun b o
 => Req (0≤s1.1∧s1.1<2) (LdV a (10+Int.toNat s1.1*1) (At w) fun v1=>OpB v1 fun g=>Cb g (zB Tryz.prog 221 #[.pointer (some ⟨b,o,none⟩)] w fun v2 w=>OpI
 .i64 v2 fun n=>Cb (decide (n<64)) (LdV a 9 (At w) fun v3=>OpN v3 fun b1 o1=>zB Tryz.prog 168 #[.pointer (some ⟨b1,o1,none⟩)] w fun v4 w=>OpI .i64 v4 fun n1
 => Ret [] (R (.int .i64 n1) w)) (K1 (IntKind.wrap .i64 (s1.1+1),()) w)) (K1 (IntKind.wrap .i64 (s1.1+1),()) w)))) (Ret [] (R (.int .i64 0) w))) (0,()) w
theorem C_array_Array_shorten {a:Nat} {w:World} {R:Value→World→Prop} (h:F_array_Array_shorten a w R):zB Tryz.prog 144 #[.pointer (some ⟨a,0,none⟩)] w R:=by
 exact zE (args:=[.pointer (some ⟨a,0,none⟩)]) (mkAnn [(2,[(9,(.int .i64))])] [] [] [] []) zD Tryz.func144 rfl rfl (by kernel_rfl) h
def F_array_Array_out (a:Nat) (side:Int) (w:World) (R:Value→World→Prop):Prop :=
 LdV a 9 (At w) fun v=>OpN v fun b o=>zB Tryz.prog 157 #[.pointer (some ⟨b,o,none⟩)] w fun v1 w=>T2 v1 fun v2 v3=>OpA 19 v2 fun cs=>OpI .i64 v3 fun n=>Alc
 246 (zc Tryz.prog 246) w fun b1 w=>StA 19 b1 0 cs w fun w=>Cb (n !=0) (Ret [] (R (.int .i64 n) w)) (zB Tryz.prog 144 #[.pointer (some ⟨a,0,none⟩)] w fun v4 w =>
 OpI .i64 v4 fun n1=>Cb (n1 !=0) (Ret [] (R (.int .i64 n1) w)) (LdV a 9 (At w) fun v5=>OpN v5 fun b2 o1=>zB Tryz.prog 158 #[.pointer (some ⟨b2,o1,none⟩)] w fun
 v6 w=>OpI .u64 v6 fun n2=>HeldR w fun S w=>LdA 4 a 3 S fun cs1=>LdV a 9 S fun v7=>OpN v7 fun b3 o2=>LdV b1 2 S fun v8=>OpI .i64 v8 fun n3=>LdA 16 b1 3 S
 fun cs2=>Req (0≤side∧side<2) (LdV a (13+Int.toNat side*2+1) S fun v9=>OpI .u32 v9 fun n4=>zB Tryz.prog 159 #[.pointer (some ⟨b3,o2,none⟩),.int .i64
 side] w fun v10 w=>OpS v10 fun p l c=>Hld (S w) (zB Tryz.prog 57 #[.agg cs1,.slice p l c,.int .u64 n2,.int .i64 n3,.agg cs2,.int .u32 n4] w fun v11 w=>OpI
 .i64 v11 fun n5=>Hld (S w) (Cb (n5 !=0) (Ret [] (R (.int .i64 n5) w)) (HeldR w fun S w=>LdV a 9 (At w) fun v12=>OpN v12 fun b4 o3=>LdV b1 2 (At w) fun v13=>OpI
 .i64 v13 fun n6=>LdV b1 1 (At w) fun v14=>OpI .u64 v14 fun n7=>zB Tryz.prog 160 #[.pointer (some ⟨b4,o3,none⟩),.int .i64 n6,.int .u64 n7] w fun v15 w=>OpI
 .i64 v15 fun n8=>Hld (S w) (Ret [] (R (.int .i64 n8) w))))))))
theorem C_array_Array_out {a:Nat} {side:Int} {w:World} {R:Value→World→Prop} (h:F_array_Array_out a side w R):zB Tryz.prog 84 #[.pointer (some ⟨a,0,none⟩),.int .i64 side] w R:=by
 exact zE (args:=[.pointer (some ⟨a,0,none⟩),.int .i64 side]) (mkAnn [] [] [] [] [40,53,65]) zD Tryz.func84 rfl rfl (by kernel_rfl) h
def F_array_Array_read (a:Nat) (lba:Int) (w:World) (R:Value→World→Prop):Prop :=
 Alc 37 (zc Tryz.prog 37) w fun b w=>LdV a 9 (At w) fun v=>OpN v fun b1 o=>zB Tryz.prog 154 #[.pointer (some ⟨b1,o,none⟩),.int .i64 lba] w fun v1 w=>T3 v1 fun
 v2 v3 v4=>OpA 16 v2 fun cs=>OpI .u64 v3 fun n=>OpI .i64 v4 fun n1=>Alc 37 (zc Tryz.prog 37) w fun b2 w=>StA 16 b2 0 cs w fun w=>Cb (n1==0) (LdA 16 b2 0 (At
 w) fun cs1=>StA 16 b 0 cs1 w fun w=>LdA 16 b 0 (At w) fun cs2=>Ret [] (R (.tuple #[.agg cs2,.int .i64 n1]) w)) (LdA 4 a 3 (At w) fun cs3=>zB Tryz.prog 29
 #[.agg cs3,.int .i64 lba] w fun v5 w=>T2 v5 fun v6 v7=>OpA 16 v6 fun cs4=>OpI .i64 v7 fun n2=>StA 16 b 0 cs4 w fun w=>LdA 16 b 0 (At w) fun cs5=>Ret [] (R
 (.tuple #[.agg cs5,.int .i64 n2]) w))
theorem C_array_Array_read {a:Nat} {lba:Int} {w:World} {R:Value→World→Prop} (h:F_array_Array_read a lba w R):zB Tryz.prog 81 #[.pointer (some ⟨a,0,none⟩),.int .i64 lba] w R:=by
 exact zE (args:=[.pointer (some ⟨a,0,none⟩),.int .i64 lba]) (mkAnn [] [] [] [] []) zD Tryz.func81 rfl rfl (by kernel_rfl) h
def F_array_Array_put (a:Nat) (side:Int) (lba:Int) (data:Array Value) (w:World) (R:Value→World→Prop):Prop :=
 Alc 37 data w fun b w=>LoopC (σ:=Unit) (fun _ s1 w K1=>LdV a 9 (At w) fun v=>OpN v fun b1 o=>zB Tryz.prog 154 #[.pointer (some ⟨b1,o,none⟩),.int .i64 lba]
 w fun v1 w=>T3 v1 fun v2 v3 v4=>OpA 16 v2 fun cs=>OpI .u64 v3 fun n=>OpI .i64 v4 fun n1=>Alc 37 (zc Tryz.prog 37) w fun b2 w=>StA 16 b2 0 cs w fun w=>JoinC
 (σ:=Bool×Unit) (fun J2=>Cb (n1==0) (J2 (true,()) w) (LdV a 9 (At w) fun v5=>OpN v5 fun b3 o1=>zB Tryz.prog 155 #[.pointer (some ⟨b3,o1,none⟩)] w fun v6 w
 => OpB v6 fun g=>J2 (!g,()) w)) (fun _ s2 w=>Cb s2.1 (zB Tryz.prog 144 #[.pointer (some ⟨a,0,none⟩)] w fun v7 w=>OpI .i64 v7 fun n2=>Cb (n2 !=0) (Ret [] (R
 (.int .i64 n2) w)) (HeldR w fun S w=>LdV a 9 (At w) fun v8=>OpN v8 fun b4 o2=>LdA 16 b 0 (At w) fun cs1=>zB Tryz.prog 156 #[.pointer (some ⟨b4,o2,none⟩),.int
 .i64 side,.int .i64 lba,.agg cs1] w fun v9 w=>T2 v9 fun v10 v11=>OpI .u64 v10 fun n3=>OpI .i64 v11 fun n4=>Hld (S w) (Ret [] (R (.int .i64 n4) w)))) (zB
 Tryz.prog 84 #[.pointer (some ⟨a,0,none⟩),.int .i64 side] w fun v12 w=>OpI .i64 v12 fun n5=>Cb (n5 !=0) (Ret [] (R (.int .i64 n5) w)) (K1 () w)))) () w
theorem C_array_Array_put {a:Nat} {side:Int} {lba:Int} {data:Array Value} {w:World} {R:Value→World→Prop} (h:F_array_Array_put a side lba data w R):zB Tryz.prog 82 #[.pointer (some ⟨a,0,none⟩),.int .i64 side,.int .i64 lba,.agg data] w R:=by
 exact zE (args:=[.pointer (some ⟨a,0,none⟩),.int .i64 side,.int .i64 lba,.agg data]) (mkAnnR [(1,[])] [] [] [] [55] [] [(2,[(35,.bool)])]) zD Tryz.func82 rfl rfl (by kernel_rfl) h
def F_array_Array_check (a:Nat) (sense:Int) (w:World) (R:Value→World→Prop):Prop :=
 Alc 34 (zc Tryz.prog 34) w fun b w=>LdV a 2 (At w) fun v=>OpN v fun b1 o=>zB Tryz.prog 44 #[.pointer (some ⟨b1,o,none⟩)] w fun v1 w=>OpB v1 fun g=>Cb (!g)
 (DoQ Tryz.prog (Instr.build 34 #[]) (At w) fun v2=>OpA 3 v2 fun cs=>StA 3 b 0 cs w fun w=>LdA 3 b 0 (At w) fun cs1=>Ret [] (R (.agg cs1) w)) (DoQ Tryz.prog
 (Instr.build 34 #[(0,.int .i64 2),(1,.int .i64 sense)]) (At w) fun v3=>OpA 3 v3 fun cs2=>StA 3 b 0 cs2 w fun w=>LdA 3 b 0 (At w) fun cs3=>Ret [] (R (.agg cs3)
 w))
theorem C_array_Array_check {a:Nat} {sense:Int} {w:World} {R:Value→World→Prop} (h:F_array_Array_check a sense w R):zB Tryz.prog 77 #[.pointer (some ⟨a,0,none⟩),.int .i64 sense] w R:=by
 exact zE (args:=[.pointer (some ⟨a,0,none⟩),.int .i64 sense]) (mkAnn [] [] [] [] []) zD Tryz.func77 rfl rfl (by kernel_rfl) h
def F_array_Array_capacity (a:Nat) (w:World) (R:Value→World→Prop):Prop :=
 LdA 3 a 3 (At w) fun cs=>zB Tryz.prog 140 #[.agg cs] w fun v w=>T2 v fun v1 v2=>OpI .i64 v1 fun n=>OpI .i64 v2 fun n1=>Ret [] (R (.int .i64 n) w)
theorem C_array_Array_capacity {a:Nat} {w:World} {R:Value→World→Prop} (h:F_array_Array_capacity a w R):zB Tryz.prog 74 #[.pointer (some ⟨a,0,none⟩)] w R:=by
 exact zE (args:=[.pointer (some ⟨a,0,none⟩)]) (mkAnn [] [] [] [] []) zD Tryz.func74 rfl rfl (by kernel_rfl) h
def F_array_Array_begin (a:Nat) (w:World) (R:Value→World→Prop):Prop :=
 LdV a 2 (At w) fun v=>OpN v fun b o=>zB Tryz.prog 44 #[.pointer (some ⟨b,o,none⟩)] w fun v1 w=>OpB v1 fun g=>Cb (!g) (Ret [] (R (.tuple #[.int .i64 0,.int
 .i64 4]) w)) (zB Tryz.prog 161 #[.pointer (some ⟨a,0,none⟩)] w fun v2 w=>T2 v2 fun v3 v4=>OpI .i64 v3 fun n=>OpB v4 fun g1=>Cb (!g1) (Ret [] (R (.tuple #[.int
 .i64 0,.int .i64 13]) w)) (Ret [] (R (.tuple #[.int .i64 n,.int .i64 0]) w)))
theorem C_array_Array_begin {a:Nat} {w:World} {R:Value→World→Prop} (h:F_array_Array_begin a w R):zB Tryz.prog 85 #[.pointer (some ⟨a,0,none⟩)] w R:=by
 exact zE (args:=[.pointer (some ⟨a,0,none⟩)]) (mkAnn [] [] [] [] []) zD Tryz.func85 rfl rfl (by kernel_rfl) h
def F_array_Array_Do (a:Nat) (side:Int) (init:Int) (c:Array Value) (w:World) (R:Value→World→Prop):Prop :=
 Alc 41 c w fun b w=>Alc 34 (zc Tryz.prog 34) w fun b1 w=>zB Tryz.prog 75 #[.pointer (some ⟨a,0,none⟩)] w fun v w=>LdV a 2 (At w) fun v1=>OpN v1 fun b2 o =>
 zB Tryz.prog 44 #[.pointer (some ⟨b2,o,none⟩)] w fun v2 w=>OpB v2 fun g=>Cb (!g) (DoQ Tryz.prog (Instr.build 34 #[]) (At w) fun v3=>OpA 3 v3 fun cs=>StA 3 b1
 0 cs w fun w=>CallDV Tryz.prog 76 #[.pointer (some ⟨a,0,none⟩)] w fun w=>LdA 3 b1 0 (At w) fun cs1=>R (.agg cs1) w) (Req ((decide (side<0))=(decide (side <
 0))) (Req ((decide (side<0))=(decide (side<0))) (Cb (cond (decide (side<0)) true (decide (side>1))) (zB Tryz.prog 77 #[.pointer (some ⟨a,0,none⟩),.int .i64
 5] w fun v4 w=>OpA 3 v4 fun cs2=>StA 3 b1 0 cs2 w fun w=>CallDV Tryz.prog 76 #[.pointer (some ⟨a,0,none⟩)] w fun w=>LdA 3 b1 0 (At w) fun cs3=>R (.agg cs3) w)
 (zB Tryz.prog 78 #[.pointer (some ⟨a,0,none⟩),.int .i64 side] w fun v5 w=>OpB v5 fun g1=>Cb (!g1) (zB Tryz.prog 77 #[.pointer (some ⟨a,0,none⟩),.int .i64
 2] w fun v6 w=>OpA 3 v6 fun cs4=>StA 3 b1 0 cs4 w fun w=>CallDV Tryz.prog 76 #[.pointer (some ⟨a,0,none⟩)] w fun w=>LdA 3 b1 0 (At w) fun cs5=>R (.agg cs5) w)
 (zB Tryz.prog 79 #[.pointer (some ⟨a,0,none⟩),.int .i64 side] w fun v7 w=>OpI .i64 v7 fun n=>Cb (n !=0) (zB Tryz.prog 77 #[.pointer (some ⟨a,0,none⟩),.int
 .i64 2] w fun v8 w=>OpA 3 v8 fun cs6=>StA 3 b1 0 cs6 w fun w=>CallDV Tryz.prog 76 #[.pointer (some ⟨a,0,none⟩)] w fun w=>LdA 3 b1 0 (At w) fun cs7=>R (.agg
 cs7) w) (JoinC (σ:=(Nat×Nat)×Bool×Unit) (fun J1=>HeldR w fun S w=>LdV a 12 S fun v9=>OpN v9 fun b3 o1=>LdA 7 b 0 S fun cs8=>(zB Tryz.prog 74
 #[.pointer (some ⟨a,0,none⟩)] w fun v10 w=>OpI .i64 v10 fun n1=>Hld (S w) ((zB Tryz.prog 80 #[.pointer (some ⟨b3,o1,none⟩),.int .i64 n1,.int .i64 init,.agg
 cs8] w fun v11 w=>T2 v11 fun v12 v13=>OpA 3 v12 fun cs9=>OpB v13 fun g2=>Hld (S w) (Alc 34 (zc Tryz.prog 34) w fun b4 w=>Hld (S w) (StA 3 b4 0 cs9 w fun w=>Hld
 (S w) (J1 ((b4,0),(g2,())) w))))∧(Alc 34 (zc Tryz.prog 34) w fun b5 w=>Hld (S w) (zB Tryz.prog 80 #[.pointer (some ⟨b3,o1,none⟩),.int .i64 n1,.int .i64 init,
 .agg cs8] w fun v14 w=>T2 v14 fun v15 v16=>OpA 3 v15 fun cs10=>OpB v16 fun g3=>Hld (S w) (StA 3 b5 0 cs10 w fun w=>Hld (S w) (J1 ((b5,0),(g3,())) w)))))) ∧
 (Alc 34 (zc Tryz.prog 34) w fun b6 w=>Hld (S w) (zB Tryz.prog 74 #[.pointer (some ⟨a,0,none⟩)] w fun v17 w=>OpI .i64 v17 fun n2=>Hld (S w) (zB Tryz.prog 80
 #[.pointer (some ⟨b3,o1,none⟩),.int .i64 n2,.int .i64 init,.agg cs8] w fun v18 w=>T2 v18 fun v19 v20=>OpA 3 v19 fun cs11=>OpB v20 fun g4=>Hld (S w) (StA 3 b6
 0 cs11 w fun w=>Hld (S w) (J1 ((b6,0),(g4,())) w)))))) (fun _ s1 w=>Cb s1.2.1 (LdA 3 s1.1.1 s1.1.2 (At w) fun cs12=>StA 3 b1 0 cs12 w fun w=>CallDV Tryz.prog 76
 #[.pointer (some ⟨a,0,none⟩)] w fun w=>LdA 3 b1 0 (At w) fun cs13=>R (.agg cs13) w) (DoQ Tryz.prog (Instr.build 34 #[(0,.int .i64 1)]) (At w) fun v21=>OpA 3 v21
 fun cs14=>Alc 34 (zc Tryz.prog 34) w fun b7 w=>StA 3 b7 0 cs14 w fun w=>LdV b 0 (At w) fun v22=>OpI .i64 v22 fun n3=>JoinC (σ:=Unit) (fun J2=>Cb (n3==2)
 (LdV b 2 (At w) fun v23=>OpI .i64 v23 fun n4=>LoopC (σ:=Int×Unit) (fun _ s3 w K3=>Cb (decide (s3.1<n4)) (LdV b 1 (At w) fun v24=>OpI .i64 v24 fun n5=>zB
 Tryz.prog 81 #[.pointer (some ⟨a,0,none⟩),.int .i64 (IntKind.wrap .i64 (n5+s3.1))] w fun v25 w=>T2 v25 fun v26 v27=>OpA 16 v26 fun cs15=>OpI .i64 v27 fun n6 =>
 Alc 37 (zc Tryz.prog 37) w fun b8 w=>StA 16 b8 0 cs15 w fun w=>Cb (n6 !=0) (zB Tryz.prog 77 #[.pointer (some ⟨a,0,none⟩),.int .i64 3] w fun v28 w=>OpA 3 v28
 fun cs16=>StA 3 b1 0 cs16 w fun w=>CallDV Tryz.prog 76 #[.pointer (some ⟨a,0,none⟩)] w fun w=>LdA 3 b1 0 (At w) fun cs17=>R (.agg cs17) w) (LdV b7 2 (At w) fun
 v29=>OpS v29 fun p l c1=>LdA 16 b8 0 (At w) fun cs18=>DoV Tryz.prog (Instr.buildSlice 32 1 #[(0,.agg cs18)]) w fun v30 w=>OpS v30 fun p1 l1 c2=>DoV Tryz.prog
 (Builtin.append_ #[32,32] 32 #[.slice p l c1,.slice p1 l1 c2]) w fun v31 w=>OpS v31 fun p2 l2 c3=>StV b7 2 (.slice p2 l2 c3) w fun w=>K3 (IntKind.wrap .i64 (s3.1 +
 1),()) w)) (J2 () w)) (0,()) w) (JoinC (σ:=Bool×Unit) (fun J4=>Cb (n3==3) (J4 (n3==3,()) w) (J4 (n3==6,()) w)) (fun _ s4 w=>Cb s4.1 (LdV b 3 (At w) fun
 v32=>OpS v32 fun p3 l3 c4=>LdV b 0 (At w) fun v33=>OpI .i64 v33 fun n7=>JoinC (σ:=(Option Addr×Nat×Nat)×Unit) (fun J5=>Cb (n7==6) (LdV b 2 (At w) fun
 v34=>OpI .i64 v34 fun n8=>DoV Tryz.prog (Instr.makeSlice 32 (.int .i64 n8) (.int .i64 n8)) w fun v35 w=>OpS v35 fun p4 l4 c5=>J5 ((p4,l4,c5),()) w) (J5 ((p3,
 l3,c4),()) w)) (fun _ s5 w=>LoopC (σ:=Int×Unit) (fun _ s6 w K6=>Cb (decide (s6.1<((s5.1.2.1:Nat):Int))) (IdxS s5.1.1 s5.1.2.1 s6.1 16 fun b9 o2=>LdA 16
 b9 o2 (At w) fun cs19=>Alc 37 (zc Tryz.prog 37) w fun b10 w=>StA 16 b10 0 cs19 w fun w=>LdV b 1 (At w) fun v36=>OpI .i64 v36 fun n9=>LdA 16 b10 0 (At w) fun cs20
 => zB Tryz.prog 82 #[.pointer (some ⟨a,0,none⟩),.int .i64 side,.int .i64 (IntKind.wrap .i64 (n9+s6.1)),.agg cs20] w fun v37 w=>OpI .i64 v37 fun n10=>Cb (n10
 != 0) (zB Tryz.prog 77 #[.pointer (some ⟨a,0,none⟩),.int .i64 13] w fun v38 w=>OpA 3 v38 fun cs21=>StA 3 b1 0 cs21 w fun w=>CallDV Tryz.prog 76 #[.pointer
 (some ⟨a,0,none⟩)] w fun w=>LdA 3 b1 0 (At w) fun cs22=>R (.agg cs22) w) (K6 (IntKind.wrap .i64 (s6.1+1),()) w)) (J2 () w)) (0,()) w)) (Cb (n3==5) (LdV b 1 (At
 w) fun v39=>OpI .i64 v39 fun n11=>zB Tryz.prog 81 #[.pointer (some ⟨a,0,none⟩),.int .i64 n11] w fun v40 w=>T2 v40 fun v41 v42=>OpA 16 v41 fun cs23=>OpI
 .i64 v42 fun n12=>Alc 37 (zc Tryz.prog 37) w fun b11 w=>StA 16 b11 0 cs23 w fun w=>JoinC (σ:=Unit) (fun J7=>Cb (n12 !=0) (zB Tryz.prog 77 #[.pointer (some
 ⟨a,0,none⟩),.int .i64 3] w fun v43 w=>OpA 3 v43 fun cs24=>StA 3 b1 0 cs24 w fun w=>CallDV Tryz.prog 76 #[.pointer (some ⟨a,0,none⟩)] w fun w=>LdA 3 b1 0 (At
 w) fun cs25=>R (.agg cs25) w) (LdA 16 b11 0 (At w) fun cs26=>LdV b 3 (At w) fun v44=>OpS v44 fun p5 l5 c6=>IdxS p5 l5 0 16 fun b12 o3=>LdA 16 b12 o3 (At w) fun
 cs27=>EqB Tryz.prog .neq 37 (.tmp 155) (.tmp 159) (.agg cs26:Value) (.agg cs27:Value) (At w) fun g5=>Drw w fun w=>Cb g5 (zB Tryz.prog 77 #[.pointer (some ⟨a,
 0,none⟩),.int .i64 14] w fun v45 w=>OpA 3 v45 fun cs28=>StA 3 b1 0 cs28 w fun w=>CallDV Tryz.prog 76 #[.pointer (some ⟨a,0,none⟩)] w fun w=>LdA 3 b1 0 (At w)
 fun cs29=>R (.agg cs29) w) (J7 () w))) (fun _ s7 w=>HeldR w fun S w=>LdV b 1 (At w) fun v46=>OpI .i64 v46 fun n13=>LdV b 3 S fun v47=>OpS v47 fun p6 l6 c7 =>
 IdxS p6 l6 1 16 fun b13 o4=>LdA 16 b13 o4 (At w) fun cs30=>zB Tryz.prog 82 #[.pointer (some ⟨a,0,none⟩),.int .i64 side,.int .i64 n13,.agg cs30] w fun v48 w =>
 OpI .i64 v48 fun n14=>Hld (S w) (Cb (n14 !=0) (zB Tryz.prog 77 #[.pointer (some ⟨a,0,none⟩),.int .i64 13] w fun v49 w=>OpA 3 v49 fun cs31=>StA 3 b1 0 cs31 w
 fun w=>CallDV Tryz.prog 76 #[.pointer (some ⟨a,0,none⟩)] w fun w=>LdA 3 b1 0 (At w) fun cs32=>R (.agg cs32) w) (J2 () w)))) (Cb (n3==4) (LoopC (σ:=Unit) (fun _
 s8 w K8=>LdV a 9 (At w) fun v50=>OpN v50 fun b14 o5=>LdV b14 o5 (At w) fun v51=>OpN v51 fun b15 o6=>zB Tryz.prog 83 #[.pointer (some ⟨b15,o6,none⟩)] w fun
 v52 w=>OpI .i64 v52 fun n15=>Cb (decide (n15>0)) (zB Tryz.prog 84 #[.pointer (some ⟨a,0,none⟩),.int .i64 side] w fun v53 w=>OpI .i64 v53 fun n16=>Cb (n16
 != 0) (zB Tryz.prog 77 #[.pointer (some ⟨a,0,none⟩),.int .i64 3] w fun v54 w=>OpA 3 v54 fun cs33=>StA 3 b1 0 cs33 w fun w=>CallDV Tryz.prog 76 #[.pointer (some
 ⟨a,0,none⟩)] w fun w=>LdA 3 b1 0 (At w) fun cs34=>R (.agg cs34) w) (K8 () w)) (J2 () w)) () w) (J2 () w)))))) (fun _ s2 w=>LdA 3 b7 0 (At w) fun cs35=>StA 3 b1 0
 cs35 w fun w=>CallDV Tryz.prog 76 #[.pointer (some ⟨a,0,none⟩)] w fun w=>LdA 3 b1 0 (At w) fun cs36=>R (.agg cs36) w)))))))))
theorem C_array_Array_Do {a:Nat} {side:Int} {init:Int} {c:Array Value} {w:World} {R:Value→World→Prop} (h:F_array_Array_Do a side init c w R):zB Tryz.prog 16 #[.pointer (some ⟨a,0,none⟩),.int .i64 side,.int .i64 init,.agg c] w R:=by
 exact calls_of_FD (args:=[.pointer (some ⟨a,0,none⟩),.int .i64 side,.int .i64 init,.agg c]) (mkAnnR [(21,[(86,(.int .i64))]),(34,[(122,(.int .i64))]),(50,[])] [(1,[]),(6,[])] [(32,[(16,.slice)]),(50029,[(109,.bool)])] [] [71,74,171] [] [(14,[(10,.ptr),(11,.bool)])]) zD Tryz.func16 rfl rfl (by kernel_rfl) h
def F_array_Array_Flush (a:Nat) (w:World) (R:Value→World→Prop):Prop :=
 zB Tryz.prog 75 #[.pointer (some ⟨a,0,none⟩)] w fun v w=>zB Tryz.prog 85 #[.pointer (some ⟨a,0,none⟩)] w fun v1 w=>T2 v1 fun v2 v3=>OpI .i64 v2 fun n =>
 OpI .i64 v3 fun n1=>Cb (n1 !=0) (CallDV Tryz.prog 76 #[.pointer (some ⟨a,0,none⟩)] w fun w=>R (.int .i64 n1) w) (LdV a 9 (At w) fun v4=>OpN v4 fun b o=>LdV b o
 (At w) fun v5=>OpN v5 fun b1 o1=>zB Tryz.prog 83 #[.pointer (some ⟨b1,o1,none⟩)] w fun v6 w=>OpI .i64 v6 fun n2=>Cb (n2==0) (CallDV Tryz.prog 76 #[.pointer
 (some ⟨a,0,none⟩)] w fun w=>R (.int .i64 10) w) (zB Tryz.prog 79 #[.pointer (some ⟨a,0,none⟩),.int .i64 n] w fun v7 w=>OpI .i64 v7 fun n3=>Cb (n3 !=0)
 (CallDV Tryz.prog 76 #[.pointer (some ⟨a,0,none⟩)] w fun w=>R (.int .i64 n3) w) (zB Tryz.prog 84 #[.pointer (some ⟨a,0,none⟩),.int .i64 n] w fun v8 w=>OpI .i64
 v8 fun n4=>CallDV Tryz.prog 76 #[.pointer (some ⟨a,0,none⟩)] w fun w=>R (.int .i64 n4) w)))
theorem C_array_Array_Flush {a:Nat} {w:World} {R:Value→World→Prop} (h:F_array_Array_Flush a w R):zB Tryz.prog 19 #[.pointer (some ⟨a,0,none⟩)] w R:=by
 exact calls_of_FD (args:=[.pointer (some ⟨a,0,none⟩)]) (mkAnn [] [] [] [] []) zD Tryz.func19 rfl rfl (by kernel_rfl) h
def F_array_Array_Crash (a:Nat) (side:Int) (w:World) (R:Value→World→Prop):Prop :=
 zB Tryz.prog 75 #[.pointer (some ⟨a,0,none⟩)] w fun v w=>LdV a 2 (At w) fun v1=>OpN v1 fun b o=>zB Tryz.prog 44 #[.pointer (some ⟨b,o,none⟩)] w fun v2 w =>
 OpB v2 fun g=>Cb (!g) (CallDV Tryz.prog 76 #[.pointer (some ⟨a,0,none⟩)] w fun w=>R (.int .i64 4) w) (Req ((decide (side<0))=(decide (side<0))) (Req ((decide
 (side<0))=(decide (side<0))) (Cb (cond (decide (side<0)) true (decide (side>1))) (CallDV Tryz.prog 76 #[.pointer (some ⟨a,0,none⟩)] w fun w=>R (.int .i64 2)
 w) (Req (0≤side∧side<2) (LdV a (13+Int.toNat side*2) (At w) fun v3=>OpB v3 fun g1=>Cb (!g1) (CallDV Tryz.prog 76 #[.pointer (some ⟨a,0,none⟩)] w fun w=>R
 (.int .i64 13) w) (Req (0≤side∧side<2) (StV a (13+Int.toNat side*2) (.bool false) w fun w=>CallDV Tryz.prog 76 #[.pointer (some ⟨a,0,none⟩)] w fun w=>R
 (.int .i64 0) w)))))))
theorem C_array_Array_Crash {a:Nat} {side:Int} {w:World} {R:Value→World→Prop} (h:F_array_Array_Crash a side w R):zB Tryz.prog 22 #[.pointer (some ⟨a,0,none⟩),.int .i64 side] w R:=by
 exact calls_of_FD (args:=[.pointer (some ⟨a,0,none⟩),.int .i64 side]) (mkAnn [] [] [] [] []) zD Tryz.func22 rfl rfl (by kernel_rfl) h
def F_array_Array_Rejoin (a:Nat) (side:Int) (w:World) (R:Value→World→Prop):Prop :=
 zB Tryz.prog 75 #[.pointer (some ⟨a,0,none⟩)] w fun v w=>LdV a 2 (At w) fun v1=>OpN v1 fun b o=>zB Tryz.prog 44 #[.pointer (some ⟨b,o,none⟩)] w fun v2 w =>
 OpB v2 fun g=>Cb (!g) (CallDV Tryz.prog 76 #[.pointer (some ⟨a,0,none⟩)] w fun w=>R (.int .i64 4) w) (Req ((decide (side<0))=(decide (side<0))) (Req ((decide
 (side<0))=(decide (side<0))) (Cb (cond (decide (side<0)) true (decide (side>1))) (CallDV Tryz.prog 76 #[.pointer (some ⟨a,0,none⟩)] w fun w=>R (.int .i64 2)
 w) (zB Tryz.prog 78 #[.pointer (some ⟨a,0,none⟩),.int .i64 (IntKind.wrap .i64 (1-side))] w fun v3 w=>OpB v3 fun g1=>Cb (!g1) (CallDV Tryz.prog 76 #[.pointer
 (some ⟨a,0,none⟩)] w fun w=>R (.int .i64 13) w) (JoinC (σ:=Bool×Unit) (fun J1=>Req (0≤side∧side<2) (LdV a (13+Int.toNat side*2) (At w) fun v4=>OpB v4
 fun g2=>Cb g2 (Req (0≤side∧side<2) (LdV a (10+Int.toNat side*1) (At w) fun v5=>OpB v5 fun g3=>Cb g3 (LdV a 17 (At w) fun v6=>OpB v6 fun g4=>J1 (!g4,
 ()) w) (J1 (false,()) w))) (J1 (false,()) w))) (fun _ s1 w=>Cb s1.1 (CallDV Tryz.prog 76 #[.pointer (some ⟨a,0,none⟩)] w fun w=>R (.int .i64 11) w) (Req (0≤side
 ∧ side<2) (LdV a (10+Int.toNat side*1) (At w) fun v7=>OpB v7 fun g5=>JoinC (σ:=Unit) (fun J2=>Cb (!g5) (LdV a 9 (At w) fun v8=>OpN v8 fun b1 o1=>zB
 Tryz.prog 92 #[.pointer (some ⟨b1,o1,none⟩),.int .i64 side] w fun v9 w=>OpI .i64 v9 fun n=>Cb (n !=0) (CallDV Tryz.prog 76 #[.pointer (some ⟨a,0,none⟩)] w fun w
 => R (.int .i64 n) w) (Req (0≤side∧side<2) (StV a (10+Int.toNat side*1) (.bool true) w fun w=>JoinC (σ:=Unit) (fun J3=>Dr1 w fun w=>Req (0≤IntKind.wrap
 .i64 (1-side)∧IntKind.wrap .i64 (1-side)<2) (LdV a (13+Int.toNat (IntKind.wrap .i64 (1-side))*2+1) (At w) fun v10=>OpI .u32 v10 fun n1=>Req (0≤side ∧
 side<2) (StV a (13+Int.toNat side*2+1) (.int .u32 n1) w fun w=>J3 () w))) (fun _ s3 w=>J2 () w)))) (J2 () w)) (fun _ s2 w=>Req (0≤side∧side<2) (StV a
 (13+Int.toNat side*2) (.bool true) w fun w=>StV a 17 (.bool false) w fun w=>CallDV Tryz.prog 76 #[.pointer (some ⟨a,0,none⟩)] w fun w=>R (.int .i64 0)
 w))))))))))
theorem C_array_Array_Rejoin {a:Nat} {side:Int} {w:World} {R:Value→World→Prop} (h:F_array_Array_Rejoin a side w R):zB Tryz.prog 24 #[.pointer (some ⟨a,0,none⟩),.int .i64 side] w R:=by
 exact calls_of_FD (args:=[.pointer (some ⟨a,0,none⟩),.int .i64 side]) (mkAnnR [] [] [(14,[])] [] [] [] [(11,[(35,.bool)]),(18,[])]) zD Tryz.func24 rfl rfl (by kernel_rfl) h
def F_array_Array_Start (a:Nat) (first:Bool) (second:Bool) (w:World) (R:Value→World→Prop):Prop :=
 JoinC (σ:=Bool×Unit) (fun J1=>Cb (!first) (J1 (!second,()) w) (J1 (false,()) w)) (fun _ s1 w=>Cb s1.1 (R (.int .i64 2) w) (zB Tryz.prog 75 #[.pointer (some
 ⟨a,0,none⟩)] w fun v w=>JoinC (σ:=Unit) (fun J2=>HeldR w fun S w=>Req (0≤(0:Int)∧(0:Int)<2) (StV a (13+Int.toNat 0*2) (.bool false) w fun w=>Hld
 (S w) (Req (0≤(1:Int)∧(1:Int)<2) (StV a (13+Int.toNat 1*2) (.bool false) w fun w=>Hld (S w) (StV a 9 (.pointer none) w fun w=>Hld (S w) (StV a 17 (.bool
 false) w fun w=>Hld (S w) (J2 () w))))))) (fun _ s2 w=>LdV a 12 (At w) fun v1=>OpN v1 fun b o=>zB Tryz.prog 88 #[.pointer (some ⟨b,o,none⟩)] w fun v2 w=>LdV
 a 2 (At w) fun v3=>OpN v3 fun b1 o1=>zB Tryz.prog 60 #[.pointer (some ⟨b1,o1,none⟩)] w fun v4 w=>LdV a 20 (At w) fun v5=>OpI .i64 v5 fun n=>JoinC (σ :=
 Unit) (fun J3=>Cb (decide (n>0)) (HeldR w fun S w=>LdV a 2 (At w) fun v6=>OpN v6 fun b2 o2=>LdV a 20 S fun v7=>OpI .i64 v7 fun n1=>zB Tryz.prog 59
 #[.pointer (some ⟨b2,o2,none⟩),.int .i64 (IntKind.wrap .i64 (n1-1))] w fun v8 w=>OpI .i64 v8 fun n2=>Hld (S w) (StV a 20 (.int .i64 0) w fun w=>J3 () w)) (J3 ()
 w)) (fun _ s3 w=>LdA 4 a 3 (At w) fun cs=>zB Tryz.prog 42 #[.agg cs] w fun v9 w=>OpI .u32 v9 fun n3=>DoQ Tryz.prog (Instr.build 138 #[(0,.bool first),(1,
 .bool second)]) (At w) fun v10=>OpA 2 v10 fun cs1=>Alc 138 (zc Tryz.prog 138) w fun b3 w=>StA 2 b3 0 cs1 w fun w=>LdA 2 a 7 (At w) fun cs2=>LoopC (σ:=(Option
 Addr×Nat×Nat)×(Option Addr×Nat×Nat)×Int×Unit) (fun _ s4 w K4=>Cb (decide (s4.2.2.1<2)) (Req (0≤s4.2.2.1∧s4.2.2.1<2) (Fld cs2 (Int.toNat s4.2.2.1 *
 1) fun v11=>OpN v11 fun b4 o3=>Req (0≤s4.2.2.1∧s4.2.2.1<2) (LdV b3 (0+Int.toNat s4.2.2.1*1) (At w) fun v12=>OpB v12 fun g=>Cb (!g) (K4 ((s4.1.1,
 s4.1.2.1,s4.1.2.2),((s4.2.1.1,s4.2.1.2.1,s4.2.1.2.2),(IntKind.wrap .i64 (s4.2.2.1+1),()))) w) (zB Tryz.prog 89 #[.pointer (some ⟨b4,o3,none⟩)] w fun v13 w =>
 zB Tryz.prog 62 #[.pointer (some ⟨b4,o3,none⟩)] w fun v14 w=>OpS v14 fun p l c=>zB Tryz.prog 90 #[.slice p l c,.int .u32 n3] w fun v15 w=>OpB v15 fun g1 =>
 Cb g1 (DoV Tryz.prog (Instr.buildSlice 69 1 #[(0,.int .i64 s4.2.2.1)]) w fun v16 w=>OpS v16 fun p1 l1 c1=>DoV Tryz.prog (Builtin.append_ #[69,69] 69 #[.slice s4.1.1
 s4.1.2.1 s4.1.2.2,.slice p1 l1 c1]) w fun v17 w=>OpS v17 fun p2 l2 c2=>DoV Tryz.prog (Instr.buildSlice 158 1 #[(0,.slice p l c)]) w fun v18 w=>OpS v18 fun p3 l3 c3
 => DoV Tryz.prog (Builtin.append_ #[158,158] 158 #[.slice s4.2.1.1 s4.2.1.2.1 s4.2.1.2.2,.slice p3 l3 c3]) w fun v19 w=>OpS v19 fun p4 l4 c4=>K4 ((p2,l2,c2),((p4,
 l4,c4),(IntKind.wrap .i64 (s4.2.2.1+1),()))) w) (K4 ((s4.1.1,s4.1.2.1,s4.1.2.2),((s4.2.1.1,s4.2.1.2.1,s4.2.1.2.2),(IntKind.wrap .i64 (s4.2.2.1+1),())))
 w))))) (Cb (((s4.1.2.1:Nat):Int)==0) (CallDV Tryz.prog 76 #[.pointer (some ⟨a,0,none⟩)] w fun w=>R (.int .i64 13) w) (LdA 2 b3 0 (At w) fun cs3=>zB
 Tryz.prog 91 #[.pointer (some ⟨a,0,none⟩),.int .u32 n3,.agg cs3,.slice s4.1.1 s4.1.2.1 s4.1.2.2,.slice s4.2.1.1 s4.2.1.2.1 s4.2.1.2.2] w fun v20 w=>OpI .i64 v20
 fun n4=>CallDV Tryz.prog 76 #[.pointer (some ⟨a,0,none⟩)] w fun w=>R (.int .i64 n4) w))) ((none,0,0),((none,0,0),(0,()))) w))))
theorem C_array_Array_Start {a:Nat} {first:Bool} {second:Bool} {w:World} {R:Value→World→Prop} (h:F_array_Array_Start a first second w R):zB Tryz.prog 21 #[.pointer (some ⟨a,0,none⟩),.bool first,.bool second] w R:=by
 exact calls_of_FD (args:=[.pointer (some ⟨a,0,none⟩),.bool first,.bool second]) (mkAnnR [(16,[(9,.slice),(10,.slice),(87,(.int .i64))])] [] [(9,[])] [] [71] [] [(1,[(23,.bool)]),(5,[])]) zD Tryz.func21 rfl rfl (by kernel_rfl) h
def F_array_Array_recover (a:Nat) (key:Int) (started:Array Value) (sourcesp:Option Addr) (sourcesl:Nat) (sourcesc:Nat) (listsp:Option Addr) (listsl:Nat) (listsc:Nat) (w:World) (R:Value→World→Prop):Prop :=
 Alc 138 started w fun b w=>LdA 4 a 3 (At w) fun cs=>zB Tryz.prog 61 #[.agg cs,.int .u32 key,.slice listsp listsl listsc] w fun v w=>OpI .i64 v fun n=>Cb (n !=
 0) (Ret [] (R (.int .i64 n) w)) (IdxS sourcesp sourcesl 0 1 fun b1 o=>LdV b1 o (At w) fun v1=>OpI .i64 v1 fun n1=>zB Tryz.prog 145 #[.int .u32 key,.int .i64 n1]
 w fun v2 w=>T2 v2 fun v3 v4=>OpI .u32 v3 fun n2=>OpI .i64 v4 fun n3=>Cb (n3 !=0) (Ret [] (R (.int .i64 n3) w)) (LoopC (σ:=Int×Unit) (fun _ s1 w K1=>Cb
 (decide (s1.1<((sourcesl:Nat):Int))) (IdxS sourcesp sourcesl s1.1 1 fun b2 o1=>LdV b2 o1 (At w) fun v5=>OpI .i64 v5 fun n4=>Req (0≤n4∧n4<2) (LdV a (7 +
 Int.toNat n4*1) (At w) fun v6=>OpN v6 fun b3 o2=>DoQ Tryz.prog (Instr.build 246 #[(0,.int .i64 6),(1,.int .u64 (IntKind.wrap .u64 n2))]) (At w) fun v7=>OpA 19
 v7 fun cs1=>zB Tryz.prog 165 #[.pointer (some ⟨b3,o2,none⟩),.agg cs1] w fun v8 w=>OpI .i64 v8 fun n5=>Cb (n5 !=0) (Ret [] (R (.int .i64 n5) w)) (K1
 (IntKind.wrap .i64 (s1.1+1),()) w))) (LdA 4 a 3 (At w) fun cs2=>zB Tryz.prog 40 #[.agg cs2,.int .u32 n2] w fun v9 w=>OpI .i64 v9 fun n6=>HeldR w fun S w =>
 Req (0≤(0:Int)∧(0:Int)<2) (LdV a (7+Int.toNat 0*1) S fun v10=>OpN v10 fun b4 o3=>Req (0≤(1:Int)∧(1:Int)<2) (LdV a (7+Int.toNat 1*1) S fun
 v11=>OpN v11 fun b5 o4=>LdV a 19 S fun v12=>OpI .i64 v12 fun n7=>zB Tryz.prog 166 #[.slice listsp listsl listsc] w fun v13 w=>OpI .u64 v13 fun n8=>Hld (S w)
 (zB Tryz.prog 167 #[.slice listsp listsl listsc] w fun v14 w=>OpS v14 fun p l c=>Hld (S w) (zB Tryz.prog 139 #[.pointer (some ⟨b4,o3,none⟩),.pointer (some
 ⟨b5,o4,none⟩),.int .i64 n7,.int .u32 n2,.int .u64 n8,.slice p l c] w fun v15 w=>T2 v15 fun v16 v17=>OpP v16 (OpI .i64 v17 fun n9=>Hld (S w) (Cb (n9 !=0) (Ret
 [] (R (.int .i64 n9) w)) (LoopC (σ:=Int×Unit) (fun _ s2 w K2=>Cb (decide (s2.1<2)) (Req (0≤s2.1∧s2.1<2) (LdV b (0+Int.toNat s2.1*1) (At w) fun v18=>OpB
 v18 fun g=>Cb (!g) (zB Tryz.prog 143 #[.pointer none,.int .i64 s2.1] w fun v19 w=>OpI .i64 v19 fun n10=>K2 (IntKind.wrap .i64 (s2.1+1),()) w) (K2
 (IntKind.wrap .i64 (s2.1+1),()) w))) (zB Tryz.prog 168 #[.pointer none] w fun v20 w=>OpI .i64 v20 fun n11=>Cb (n11 !=0) (Ret [] (R (.int .i64 n11) w)) (HeldR w
 fun S w=>LdA 2 b 0 S fun cs3=>StV a 9 (.pointer none) w fun w=>Hld (S w) (StA 2 a 10 cs3 w fun w=>Hld (S w) (LoopC (σ:=Int×Unit) (fun _ s3 w K3=>Cb (decide
 (s3.1<2)) (Dr1 w fun w=>Req (0≤s3.1∧s3.1<2) (LdV b (0+Int.toNat s3.1*1) (At w) fun v21=>OpB v21 fun g1=>DoQ Tryz.prog (Instr.build 140 #[(0,.bool g1),
 (1,.int .u32 n2)]) (At w) fun v22=>OpA 2 v22 fun cs4=>Req (0≤s3.1∧s3.1<2) (StA 2 a (13+Int.toNat s3.1*2) cs4 w fun w=>K3 (IntKind.wrap .i64 (s3.1+1),
 ()) w))) (Ret [] (R (.int .i64 0) w))) (0,()) w))))) (0,()) w))) fun b6 o5=>OpI .i64 v17 fun n12=>Hld (S w) (Cb (n12 !=0) (Ret [] (R (.int .i64 n12) w)) (LoopC (σ
 := Int×Unit) (fun _ s4 w K4=>Cb (decide (s4.1<2)) (Req (0≤s4.1∧s4.1<2) (LdV b (0+Int.toNat s4.1*1) (At w) fun v23=>OpB v23 fun g2=>Cb (!g2) (zB
 Tryz.prog 143 #[.pointer (some ⟨b6,o5,none⟩),.int .i64 s4.1] w fun v24 w=>OpI .i64 v24 fun n13=>K4 (IntKind.wrap .i64 (s4.1+1),()) w) (K4 (IntKind.wrap .i64
 (s4.1+1),()) w))) (zB Tryz.prog 168 #[.pointer (some ⟨b6,o5,none⟩)] w fun v25 w=>OpI .i64 v25 fun n14=>Cb (n14 !=0) (Ret [] (R (.int .i64 n14) w)) (HeldR w
 fun S w=>LdA 2 b 0 S fun cs5=>StV a 9 (.pointer (some ⟨b6,o5,none⟩)) w fun w=>Hld (S w) (StA 2 a 10 cs5 w fun w=>Hld (S w) (LoopC (σ:=Int×Unit) (fun _ s5 w
 K5=>Cb (decide (s5.1<2)) (Dr1 w fun w=>Req (0≤s5.1∧s5.1<2) (LdV b (0+Int.toNat s5.1*1) (At w) fun v26=>OpB v26 fun g3=>DoQ Tryz.prog (Instr.build 140
 #[(0,.bool g3),(1,.int .u32 n2)]) (At w) fun v27=>OpA 2 v27 fun cs6=>Req (0≤s5.1∧s5.1<2) (StA 2 a (13+Int.toNat s5.1*2) cs6 w fun w=>K5 (IntKind.wrap
 .i64 (s5.1+1),()) w))) (Ret [] (R (.int .i64 0) w))) (0,()) w))))) (0,()) w)))))))) (0,()) w))
theorem C_array_Array_recover {a:Nat} {key:Int} {started:Array Value} {sourcesp:Option Addr} {sourcesl:Nat} {sourcesc:Nat} {listsp:Option Addr} {listsl:Nat} {listsc:Nat} {w:World} {R:Value→World→Prop} (h:F_array_Array_recover a key started sourcesp sourcesl sourcesc listsp listsl listsc w R):zB Tryz.prog 91 #[.pointer (some ⟨a,0,none⟩),.int .u32 key,.agg started,.slice sourcesp sourcesl sourcesc,.slice listsp listsl listsc] w R:=by
 exact zE (args:=[.pointer (some ⟨a,0,none⟩),.int .u32 key,.agg started,.slice sourcesp sourcesl sourcesc,.slice listsp listsl listsc]) (mkAnn [(8,[(44,(.int .i64))]),(19,[(94,(.int .i64))]),(29,[(118,(.int .i64))])] [] [] [] [85,87,88]) zD Tryz.func91 rfl rfl (by kernel_rfl) h
def F_array_Array_Ready (a:Nat) (side:Int) (w:World) (R:Value→World→Prop):Prop :=
 zB Tryz.prog 78 #[.pointer (some ⟨a,0,none⟩),.int .i64 side] w fun v w=>OpB v fun g=>Ret [] (R (.bool g) w)
theorem C_array_Array_Ready {a:Nat} {side:Int} {w:World} {R:Value→World→Prop} (h:F_array_Array_Ready a side w R):zB Tryz.prog 23 #[.pointer (some ⟨a,0,none⟩),.int .i64 side] w R:=by
 exact zE (args:=[.pointer (some ⟨a,0,none⟩),.int .i64 side]) (mkAnn [] [] [] [] []) zD Tryz.func23 rfl rfl (by kernel_rfl) h
def F_array_Array_Dirty (a:Nat) (w:World) (R:Value→World→Prop):Prop :=
 LdV a 9 (At w) fun v=>OpP v (Ret [] (R (.int .i64 0) w)) fun b o=>LdV a 9 (At w) fun v1=>OpN v1 fun b1 o1=>LdV b1 o1 (At w) fun v2=>OpN v2 fun b2 o2=>zB
 Tryz.prog 83 #[.pointer (some ⟨b2,o2,none⟩)] w fun v3 w=>OpI .i64 v3 fun n=>Ret [] (R (.int .i64 n) w)
theorem C_array_Array_Dirty {a:Nat} {w:World} {R:Value→World→Prop} (h:F_array_Array_Dirty a w R):zB Tryz.prog 18 #[.pointer (some ⟨a,0,none⟩)] w R:=by
 exact zE (args:=[.pointer (some ⟨a,0,none⟩)]) (mkAnn [] [] [] [] [9]) zD Tryz.func18 rfl rfl (by kernel_rfl) h
def F_array_Array_Capacity (a:Nat) (w:World) (R:Value→World→Prop):Prop :=
 zB Tryz.prog 74 #[.pointer (some ⟨a,0,none⟩)] w fun v w=>OpI .i64 v fun n=>Ret [] (R (.int .i64 n) w)
theorem C_array_Array_Capacity {a:Nat} {w:World} {R:Value→World→Prop} (h:F_array_Array_Capacity a w R):zB Tryz.prog 15 #[.pointer (some ⟨a,0,none⟩)] w R:=by
 exact zE (args:=[.pointer (some ⟨a,0,none⟩)]) (mkAnn [] [] [] [] []) zD Tryz.func15 rfl rfl (by kernel_rfl) h
end Go.Proofs
namespace Go.Proofs
open Go Go.Ev
set_option maxRecDepth 100000
structure AB where
 a:Nat
 g:Geo
 bks:List (Nat×Nat)
 sp:Option Addr
 sc:Nat
 pb:PB
 dk:Nat
 ms:Option Addr
 mc:Nat
structure AS where
 ds:List Dsk
 ps:PS
 ua:Bool
 ub:Bool
 la:Bool
 ea:Int
 lb:Bool
 eb:Int
 split:Bool
 marks:List Int
 later:Int
 d:Dk
def AS.ss (s:AS):SS:=⟨s.ds,s.ps.pw⟩
def AB.sb (q:AB):SB:=⟨q.pb.m,q.g,q.bks⟩
def arW (lk:Int) (m:Nat) (g:Geo) (sp:Option Addr) (sl sc:Nat) (ra rb pp:Option Addr) (u0 u1:Bool) (dk:Nat) (l0:Bool) (e0:Int) (l1:Bool) (e1:Int) (sx:Bool) (mk:Option Addr) (ml mc:Nat) (room later:Int):Array Value :=
 #[.int .i32 lk,.int .u32 0,.pointer (some ⟨m,0,none⟩),.int .i64 g.d,.int .i64 g.c,.int .i64 g.s,.slice sp sl sc,.pointer ra,.pointer rb,.pointer pp,.bool u0,.bool u1,.pointer (some ⟨dk,0,none⟩),.bool l0,.int .u32 e0,.bool l1,.int .u32 e1,.bool sx,.slice mk ml mc,.int .i64 room,.int .i64 later]
def arC (q:AB) (lk:Int) (s:AS):Array Value :=
 arW lk q.pb.m q.g q.sp q.g.d.toNat q.sc (some ⟨q.pb.a,0,none⟩) (some ⟨q.pb.b,0,none⟩) (some ⟨q.pb.p,0,none⟩) s.ua s.ub q.dk s.la s.ea s.lb s.eb s.split q.ms q.g.d.toNat q.mc q.pb.room s.later
structure ArAt (w:World) (q:AB) (lk:Int) (s:AS):Prop where
 cells:Has w q.a (.cells (arC q lk s) 143 (0,0))
 set:SetAt w q.sb s.ss
 disks:OwnL dLay w q.pb.base 111 q.sp q.g.d.toNat q.sc (q.bks.map Prod.fst)
 pair:PairAt w q.pb s.ps
 desk:DkAt w q.dk s.d
 marks:OwnL iLay w q.pb.base 3 q.ms q.g.d.toNat q.mc s.marks
section plain
variable {w w':World} {q:AB} {lk:Int} {s:AS}
theorem SetAt.blk {sb:SB} {s:SS} (h:SetAt w sb s) {i:Nat} (hi:SFoot sb i):∃ cs t,Has w i (.cells cs t (0,0)):=by
 rcases hi with rfl | hi | hi
 ·exact ⟨_,_,h.main⟩
 ·obtain ⟨br,hb,rfl⟩:=List.mem_map.1 hi
  obtain ⟨j,hj,rfl⟩:=List.mem_iff_getElem.1 hb
  have hl:j<s.ds.length:=by rw [← h.len];exact hj
  exact ⟨_,_,(h.disks j _ _ (List.getElem?_eq_getElem hj) (List.getElem?_eq_getElem hl)).1.cells⟩
 ·obtain ⟨br,hb,rfl⟩:=List.mem_map.1 hi
  obtain ⟨j,hj,rfl⟩:=List.mem_iff_getElem.1 hb
  have hl:j<s.ds.length:=by rw [← h.len];exact hj
  obtain ⟨cs,hc⟩:=(h.disks j _ _ (List.getElem?_eq_getElem hj) (List.getElem?_eq_getElem hl)).1.rcells
  exact ⟨_,_,hc⟩
theorem PairAt.keepS {p:PB} {s:PS} {S:Nat→Prop} (h:PairAt w p s) (k:Keep S w w') (hS:∀ i,PFoot p w i→¬ S i) (hc:¬ S p.c):PairAt w' p s:=by
 obtain ⟨pa,la,ca,pb,lb,cb,ha,hb,hne⟩:=h.rams
 have rw_:∀ {x:Option Addr} {l c:Nat} {bs:List Int},OwnL byLay w p.base 5 x l c bs→∀ k,x=some ⟨k,0,none⟩→¬ S k:=by
  intro x l c bs ho k hk
  rcases Own.cases ho with ⟨h0,_⟩ | ⟨b',cur,h0,hb',hg,_⟩
  ·rw [h0] at hk;cases hk
  ·rw [h0] at hk;cases hk;exact hS _ (Or.inr (Or.inr (Or.inr (Or.inr (Or.inr ⟨hb',cur,hg⟩)))))
 exact ⟨k.has h.cells (hS _ (Or.inl rfl)),h.cache.keep k hc (hS _ (Or.inr (Or.inl rfl))),k.has (show Has w _ _ from h.main) (hS _ (Or.inr (Or.inr (Or.inl rfl)))),
  ⟨pa,la,ca,pb,lb,cb,ha.keep k (hS _ (Or.inr (Or.inr (Or.inr (Or.inl rfl))))) (rw_ ha.row),hb.keep k (hS _ (Or.inr (Or.inr (Or.inr (Or.inr (Or.inl rfl)))))) (rw_ hb.row),hne⟩,h.ne,h.fit,h.form,h.low⟩
theorem ArAt.keep0 (h:ArAt w q lk s) (k:Keep (fun _=>False) w w'):ArAt w' q lk s :=
 ⟨k.has h.cells (by simp),h.set.keep0 k,h.disks.keep k (by simp),h.pair.keep k,k.has (show Has w _ _ from h.desk) (by simp),h.marks.keep k (by simp)⟩
theorem ArAt.share (h:ArAt w q lk s) {i:Nat} (hp:PFoot q.pb w i) (hs:SFoot q.sb i):i=q.pb.m:=by
 obtain ⟨_,_,_,_,_,_,ha,hb,_⟩:=h.pair.rams
 rcases hp with e | e | e | e | e | ⟨_,cs,hc⟩
 ·subst e;exact absurd hs (h.set.typ h.pair.cells (by decide) (by decide) (by decide))
 ·subst e
  obtain ⟨cs,t,hc⟩:=h.set.blk hs
  obtain ⟨_,arr,clk,hm,_⟩:=h.pair.cache
  have:=hc.inj hm
  cases this
 ·exact e
 ·subst e;exact absurd hs (h.set.typ ha.cells (by decide) (by decide) (by decide))
 ·subst e;exact absurd hs (h.set.typ hb.cells (by decide) (by decide) (by decide))
 ·exact absurd hs (h.set.typ hc (by decide) (by decide) (by decide))
theorem ArAt.ofPair (h:ArAt w q lk s) {p:PS} (hp:PairAt w' q.pb p) (k:Keep (PFoot q.pb w) w w'):ArAt w' q lk { s with ps:=p } :=
 ⟨PFoot.has k h.cells (by decide) h.pair (by decide) (by decide) (by decide),h.set.pow k (fun i hs hf=>h.share hf hs) hp.main,
  PFoot.own k h.disks (by decide) h.pair (by decide) (by decide) (by decide),hp,PFoot.has k (show Has w _ _ from h.desk) (by decide) h.pair (by decide) (by decide) (by decide),
  PFoot.own k h.marks (by decide) h.pair (by decide) (by decide) (by decide)⟩
theorem ArAt.put (h:ArAt w q lk s) {lk':Int} {s':AS} (h1:s'.ss=s.ss) (h2:s'.ps=s.ps) (h3:s'.d=s.d) (h4:s'.marks=s.marks) :
  ArAt (w.upd q.a (.cells (arC q lk' s') 143 (0,0))) q lk' s':=by
 have k:Keep (fun k=>k=q.a) w (w.upd q.a (.cells (arC q lk' s') 143 (0,0))):=Keep.one _ _ _
 have ne:∀ {i:Nat} {cs:Array Value} {t:TypeId},Has w i (.cells cs t (0,0))→t≠143→¬ i=q.a:=by
  intro i cs t hi ht e
  subst e
  have:=hi.inj h.cells
  simp only [Obj.cells.injEq] at this
  exact ht this.2.1
 refine ⟨h.cells.upd_same _,by rw [h1];exact h.set.keep k fun i hi e=>h.set.typ h.cells (by decide) (by decide) (by decide) (e ▸ hi),h.disks.keep k (fun b hb=>?_),by rw [h2];exact h.pair.keepS k (fun i hi e=>PFoot.not h.cells (by decide) h.pair (by decide) (by decide) (by decide) (e ▸ hi)) (ne h.pair.cache.1 (by decide)),by rw [h3];exact k.has (show Has w _ _ from h.desk) (ne h.desk (by decide)),?_⟩
 ·obtain ⟨_,cur,hh⟩:=own_has h.disks b 0 hb
  exact ne hh (by decide)
 ·rw [h4]
  refine h.marks.keep k (fun b hb=>?_)
  obtain ⟨_,cur,hh⟩:=own_has h.marks b 0 hb
  exact ne hh (by decide)
end plain
structure NewS (w0 w:World) (g:Geo) (b m dk:Nat) (mk:Option Addr) (mc:Nat):Prop where
 geo:Has w b (.cells (geoV g) 24 (0,0))
 ma:MaAt w m pw0
 desk:DkAt w dk dk0
 marks:OwnL iLay w w0.heap.size 3 mk g.d.toNat mc (List.replicate g.d.toNat 0)
 keep:Keep (fun _=>False) w0 w
 hm:w0.heap.size≤m
 hd:w0.heap.size≤dk
 hb:w0.heap.size≤b
section plain
variable {w0 w w':World} {g:Geo} {b m dk:Nat} {mk:Option Addr} {mc:Nat}
theorem NewS.keep0 (h:NewS w0 w g b m dk mk mc) (k:Keep (fun _=>False) w w'):NewS w0 w' g b m dk mk mc :=
 ⟨k.has h.geo (by simp),k.has (show Has w _ _ from h.ma) (by simp),k.has (show Has w _ _ from h.desk) (by simp),h.marks.keep k (by simp),h.keep.trans k,h.hm,h.hd,h.hb⟩
theorem NewS.st (h:NewS w0 w g b m dk mk mc) {a:Nat} {c c':Array Value} (ha:Has w a (.cells c 143 (0,0))) (h0:w0.heap.size≤a):NewS w0 (w.upd a (.cells c' 143 (0,0))) g b m dk mk mc:=by
 have k:Keep (fun k=>k=a) w (w.upd a (.cells c' 143 (0,0))):=Keep.one _ _ _
 have ne:∀ {i:Nat} {cs:Array Value} {t:TypeId},Has w i (.cells cs t (0,0))→t≠143→¬ i=a:=by
  intro i cs t hi ht e
  subst e
  have:=hi.inj ha
  simp only [Obj.cells.injEq] at this
  exact ht this.2.1
 refine ⟨k.has h.geo (ne h.geo (by decide)),k.has (show Has w _ _ from h.ma) (ne h.ma (by decide)),k.has (show Has w _ _ from h.desk) (ne h.desk (by decide)),h.marks.keep k (fun b hb=>?_),h.keep.trans' k (fun i hi e=>by omega),h.hm,h.hd,h.hb⟩
 obtain ⟨_,cur,hh⟩:=own_has h.marks b 0 hb
 exact ne hh (by decide)
end plain
def arS0 (g:Geo):AS:=⟨(newS g pw0).ds,⟨[],0,0,true,true,pw0,[],[]⟩,true,true,true,0,true,0,false,List.replicate g.d.toNat 0,0,dk0⟩
structure ArFrom (q:AB) (n:Nat):Prop where
 a:n≤q.a
 dk:n≤q.dk
 p:n≤q.pb.p
 mp:n≤q.pb.mp
 m:n≤q.pb.m
 ra:n≤q.pb.a
 rb:n≤q.pb.b
 base:n≤q.pb.base
 disks:(SB.mk q.pb.m q.g q.bks).from_ n
theorem run_mkI (n:Nat) (hn:n≤32) (w:World):∃ w',(Instr.makeSlice 69 (.int .i64 (n:Int)) (.int .i64 (n:Int))).run Tryz.prog w=.ok (.slice (some ⟨w.heap.size,0,none⟩) n n) w'∧OwnL iLay w' w.heap.size 3 (some ⟨w.heap.size,0,none⟩) n n (List.replicate n 0)∧Keep (fun _=>False) w w'∧w'.heap.size=w.heap.size+1 :=
 run_makeL (P:=Tryz.prog) (L:=iLay) (x0:=(0:Int)) (t:=69) (e:=3) (i:=(Tryz.prog.info? 3).get (by kernel_rfl)) (z:=((Tryz.prog.info? 3).get (by kernel_rfl)).zero.get (by kernel_rfl)) w (by kernel_rfl) (by kernel_rfl) (by kernel_rfl) (by kernel_rfl) (by kernel_rfl) n
  (by show n*1≤_;omega) (by have:((Tryz.prog.info? 3).get (by kernel_rfl)).bytes=8:=by kernel_rfl
                            rw [this];omega) (by simp only [maxLen];omega)
section calls
variable {w:World} {R:Value→World→Prop}
theorem ar_New {g:Geo} (hg:GeoOk g) {room:Int} (h1:1≤room) (h2:room≤64) (hK:∀ q w',q.g=g→q.pb.room=room→q.pb.sz=65536→ArAt w' q 0 (arS0 g)→ArFrom q w.heap.size→Keep (fun _=>False) w w'→R (.tuple #[.pointer (some ⟨q.a,0,none⟩),.int .i64 0]) w') :
  zB Tryz.prog 13 #[.agg (geoV g),.int .i64 room] w R:=by
 apply C_array_New
 unfold F_array_New
 have hgd:=hg.d
 have hdn:((g.d.toNat:Nat):Int)=g.d:=by omega
 refine alc_fresh fun w1 hb1 k1 z1=>?_
 refine LdA_all hb1 rfl ?_
 refine l_Check hg fun w2 k2=>zA.2 ((Cb_false (p:=_)).2 ⟨rfl,rfl,?_⟩)
 rw [decide_eq_false (show ¬ room<1 by omega),decide_eq_false (show ¬ room>64 by omega)]
 refine (Cb_false (p:=_)).2 ?_
 have hb2:=k2.has hb1 (by simp)
 have k02:=k1.trans k2
 refine ⟨fun st w'=>∃ m dk mk mc,st.1.2=0∧w.heap.size≤st.1.1∧Has w' st.1.1 (.cells (arW 0 m ⟨0,0,0⟩ none 0 0 none none none false false dk false 0 false 0 false mk g.d.toNat mc room 0) 143 (0,0))∧NewS w w' g w.heap.size m dk mk mc,?_,?_⟩
 ·intro d
  have k2d:=k02.dr d
  have hb2d:Has (w2.dr d) _ _:=hb2
  generalize w2.dr d=w3 at *
  refine ⟨fun w'=>Has w' w.heap.size (.cells (geoV g) 24 (0,0)),hb2d,?_⟩
  refine LdV_of (v:=.int .i64 g.d) (fun w' hw=>⟨_,_,_,hw,rfl⟩) (zA.2 ?_)
  have bld:∀ (m dk:Nat) (mk:Option Addr) (mc:Nat) (d:World),(Instr.build 143 #[(1,.pointer (some ⟨m,0,none⟩)),(6,.pointer (some ⟨dk,0,none⟩)),(10,.int .i64 room),(9,.slice mk g.d.toNat mc)]).run Tryz.prog d=.ok (.agg (arW 0 m ⟨0,0,0⟩ none 0 0 none none none false false dk false 0 false 0 false mk g.d.toNat mc room 0)) d:=fun m dk mk mc d=>run_build _ _ _ _ (by kernel_rfl)
  refine ⟨?_,?_⟩
  ·refine ma_New fun m w4 hm hma k4 z4=>OpN_some.2 ⟨k4.has hb2d (by simp),?_,?_⟩
   ·refine rs_New fun w5 hdk k5 z5=>OpN_some.2 ⟨(k4.trans k5).has hb2d (by simp),?_⟩
    obtain ⟨w6,hr,o6,k6,z6⟩:=run_mkI g.d.toNat (by omega) w5
    rw [hdn] at hr
    refine ⟨_,_,hr,zC.2 ⟨((k4.trans k5).trans k6).has hb2d (by simp),?_⟩⟩
    refine DoQ_of (fun d=>bld _ _ _ _ _) (OpA_agg.2 ⟨rfl,?_⟩)
    refine alc_fresh fun w7 hb7 k7 z7=>?_
    have k47:=((k4.trans k5).trans k6).trans k7
    refine ⟨k47.has hb2d (by simp),_,_,_,_,rfl,?_,hb7,k47.has hb2d (by simp),((k5.trans k6).trans k7).has (show Has w4 _ _ from hma) (by simp),(k6.trans k7).has (show Has w5 _ _ from hdk) (by simp),(o6.rebase ?_).keep k7 (by simp),k2d.trans k47,?_,?_,Nat.le_refl _⟩
    all_goals first | exact ((k2d.trans k4).trans (k5.trans k6)).size | exact ((k2d.trans k4).trans k5).size | exact (k2d.trans k4).size | (rw [hm];exact k2d.size)
   ·obtain ⟨w6,hr,o6,k6,z6⟩:=run_mkI g.d.toNat (by omega) w4
    rw [hdn] at hr
    refine ⟨_,_,hr,zC.2 ⟨(k4.trans k6).has hb2d (by simp),?_⟩⟩
    refine rs_New fun w5 hdk k5 z5=>OpN_some.2 ⟨((k4.trans k6).trans k5).has hb2d (by simp),?_⟩
    refine DoQ_of (fun d=>bld _ _ _ _ _) (OpA_agg.2 ⟨rfl,?_⟩)
    refine alc_fresh fun w7 hb7 k7 z7=>?_
    have k47:=((k4.trans k6).trans k5).trans k7
    refine ⟨k47.has hb2d (by simp),_,_,_,_,rfl,?_,hb7,k47.has hb2d (by simp),((k6.trans k5).trans k7).has (show Has w4 _ _ from hma) (by simp),k7.has (show Has w5 _ _ from hdk) (by simp),((o6.rebase ?_).keep k5 (by simp)).keep k7 (by simp),k2d.trans k47,?_,?_,Nat.le_refl _⟩
    all_goals first | exact ((k2d.trans k4).trans (k6.trans k5)).size | exact ((k2d.trans k4).trans k6).size | exact (k2d.trans k4).size | (rw [hm];exact k2d.size)
  ·obtain ⟨w6,hr,o6,k6,z6⟩:=run_mkI g.d.toNat (by omega) w3
   rw [hdn] at hr
   refine ⟨_,_,hr,zC.2 ⟨k6.has hb2d (by simp),?_⟩⟩
   refine ma_New fun m w4 hm hma k4 z4=>OpN_some.2 ⟨(k6.trans k4).has hb2d (by simp),?_⟩
   refine rs_New fun w5 hdk k5 z5=>OpN_some.2 ⟨((k6.trans k4).trans k5).has hb2d (by simp),?_⟩
   refine DoQ_of (fun d=>bld _ _ _ _ _) (OpA_agg.2 ⟨rfl,?_⟩)
   refine alc_fresh fun w7 hb7 k7 z7=>?_
   have k47:=((k6.trans k4).trans k5).trans k7
   refine ⟨k47.has hb2d (by simp),_,_,_,_,rfl,?_,hb7,k47.has hb2d (by simp),(k5.trans k7).has (show Has w4 _ _ from hma) (by simp),k7.has (show Has w5 _ _ from hdk) (by simp),(((o6.rebase ?_).keep k4 (by simp)).keep k5 (by simp)).keep k7 (by simp),k2d.trans k47,?_,?_,Nat.le_refl _⟩
   all_goals first | exact ((k2d.trans k6).trans (k4.trans k5)).size | exact k2d.size | (rw [hm];exact (k2d.trans k6).size) | exact ((k2d.trans k6).trans k4).size
 rintro _ ⟨⟨a,o⟩,u⟩ w3 ⟨m,dk,mk,mc,ho,ha,hA,hN⟩
 simp only at ho ha hA ⊢
 subst ho
 clear k1 k2 k02 hb1 hb2 z1
 refine ⟨fun _ w'=>∃ sp sc bks,Has w' a (.cells (arW 0 m g sp g.d.toNat sc none none none false false dk false 0 false 0 false mk g.d.toNat mc room 0) 143 (0,0))∧NewS w w' g w.heap.size m dk mk mc∧SetAt w' ⟨m,g,bks⟩ (newS g pw0)∧OwnL dLay w' w.heap.size 111 sp g.d.toNat sc (bks.map Prod.fst)∧(SB.mk m g bks).from_ w.heap.size,?_,?_⟩
 ·intro d
  have hN:=hN.keep0 (Keep.drew _ w3 d)
  have hA:Has (w3.dr d) _ _:=hA
  generalize w3.dr d=w4 at *
  refine ⟨fun w'=>True,trivial,?_⟩
  refine LdA_all hN.geo rfl ?_
  refine LdV_has (v:=.pointer (some ⟨m,0,none⟩)) hA rfl (OpN_some.2 ?_)
  refine st_New hg hN.ma fun p c bks w5 hS o5 hfr k5=>T2_mk.2 (OpA_agg.2 ⟨rfl,zA.2 ⟨trivial,?_⟩⟩)
  have hA5:=k5.has hA (by simp)
  have hN5:=hN.keep0 k5
  have hz:=hN.keep.size
  refine StA_of hA5 rfl (by show 0+3+4≤21;decide) (one_setV _ _ _ _) ⟨trivial,p,c,bks,hA5.upd_same _,hN5.st hA5 ha,?_,?_,fun br hbr=>?_⟩
  ·exact hS.keep (Keep.one _ _ _) fun i hi e=>hS.typ hA5 (by decide) (by decide) (by decide) (e ▸ hi)
  ·refine (o5.rebase hz).keep (Keep.one _ _ _) fun b hb e=>?_
   obtain ⟨_,cur,hh⟩:=own_has o5 b 0 hb
   subst e
   have:=hh.inj hA5
   simp only [Obj.cells.injEq] at this
   exact absurd this.2.1 (by decide)
  ·have:=hfr br hbr
   omega
 rintro _ _ w4 ⟨sp,sc,bks,hA4,hN4,hS4,o4,hfr⟩
 clear hA hN
 clear w3
 have tne:∀ {w:World} {i j:Nat} {cs cs':Array Value} {t t':TypeId},Has w i (.cells cs t (0,0))→Has w j (.cells cs' t' (0,0))→t≠t'→¬ i=j:=by
  intro w i j cs cs' t t' hi hj ht e
  subst e
  have:=hi.inj hj
  simp only [Obj.cells.injEq] at this
  exact ht this.2.1
 refine LoopC_of (σ:=Int×Unit) (fun st w'=>∃ k:Nat,st.1=(k:Int)∧k≤2∧∃ ra rb,w.heap.size≤ra∧w.heap.size≤rb∧Has w' a (.cells (arW 0 m g sp g.d.toNat sc (if 0<k then some ⟨ra,0,none⟩ else none) (if 1<k then some ⟨rb,0,none⟩ else none) none (decide (0<k)) (decide (1<k)) dk (decide (0<k)) 0 (decide (1<k)) 0 false mk g.d.toNat mc room 0) 143 (0,0)) ∧
  NewS w w' g w.heap.size m dk mk mc∧SetAt w' ⟨m,g,bks⟩ (newS g pw0)∧OwnL dLay w' w.heap.size 111 sp g.d.toNat sc (bks.map Prod.fst)∧(0<k→RaAt w' w.heap.size m ra 65536 none 0 0 [])∧(1<k→RaAt w' w.heap.size m rb 65536 none 0 0 []∧ra≠rb)) (fun st _=>(2-st.1).toNat)
  ⟨0,rfl,by omega,w.heap.size,w.heap.size,Nat.le_refl _,Nat.le_refl _,hA4,hN4,hS4,o4,by omega,by omega⟩ ?_
 clear hA4 hN4 hS4 o4
 clear w4
 rintro _ ⟨i,u2⟩ w4 ⟨k,hi,hk,ra,rb,hra,hrb,hA4,hN4,hS4,o4,hr1,hr2⟩
 simp only at hi ⊢
 subst hi
 refine Cb_of (fun hc=>?_) (fun hc=>?_)
 ·have hc:k<2:=by simp only [decide_eq_true_eq] at hc;omega
  refine ⟨fun _ w'=>∃ ra rb,w.heap.size≤ra∧w.heap.size≤rb∧Has w' a (.cells (arW 0 m g sp g.d.toNat sc (if 0<k+1 then some ⟨ra,0,none⟩ else none) (if 1<k+1 then some ⟨rb,0,none⟩ else none) none (decide (0<k)) (decide (1<k)) dk (decide (0<k)) 0 (decide (1<k)) 0 false mk g.d.toNat mc room 0) 143 (0,0)) ∧
   NewS w w' g w.heap.size m dk mk mc∧SetAt w' ⟨m,g,bks⟩ (newS g pw0)∧OwnL dLay w' w.heap.size 111 sp g.d.toNat sc (bks.map Prod.fst)∧(0<k+1→RaAt w' w.heap.size m ra 65536 none 0 0 [])∧(1<k+1→RaAt w' w.heap.size m rb 65536 none 0 0 []∧ra≠rb),?_,?_⟩
  ·intro d
   have kd:=Keep.drew (fun _=>False) w4 d
   have hN4:=hN4.keep0 kd
   have hS4:=hS4.keep0 kd
   have o4:=o4.keep kd (by simp)
   have hr1:0<k→RaAt (w4.dr d) w.heap.size m ra 65536 none 0 0 []:=fun h=>(hr1 h).keep kd (by simp) (by simp)
   have hA4:Has (w4.dr d) _ _:=hA4
   clear kd hr2
   generalize w4.dr d=w5 at *
   refine ⟨fun w'=>True,trivial,?_⟩
   refine LdV_has (v:=.pointer (some ⟨m,0,none⟩)) hA4 rfl (OpN_some.2 ?_)
   refine ra_New (base:=w.heap.size) (by decide) (by decide) fun w6 hR k6 z6=>T2_mk.2 (OpN_some.2 (zA.2 ⟨trivial,⟨by omega,by omega⟩,?_⟩))
   have hA6:=k6.has hA4 (by simp)
   have hN6:=hN4.keep0 k6
   have hS6:=hS4.keep0 k6
   have o6:=o4.keep k6 (by simp)
   have hz5:=hN4.keep.size
   refine StV_of hA6 (by show 0+7+Int.toNat (k:Int)*1<21;omega) rfl ⟨trivial,?_⟩
   have ko:∀ c,Keep (fun k=>k=a) w6 (w6.upd a (.cells c 143 (0,0))):=fun c=>Keep.one _ _ _
   have hS':=fun c=>hS6.keep (ko c) fun i hi e=>hS6.typ hA6 (by decide) (by decide) (by decide) (e ▸ hi)
   have o':=fun c=>o6.keep (ko c) fun b hb e=>by
    obtain ⟨_,cur,hh⟩:=own_has o6 b 0 hb
    exact tne hh hA6 (by decide) e
   match k,hc with
   | 0,_=>exact ⟨w5.heap.size,rb,hz5,hrb,hA6.upd_same _,hN6.st hA6 ha,hS' _,o' _,fun _=>hR.keep (ko _) (tne hR.cells hA6 (by decide)) (by simp),by omega⟩
   | 1,_ =>
    have hR1:=(hr1 (by omega)).keep k6 (by simp) (by simp)
    exact ⟨ra,w5.heap.size,hra,hz5,hA6.upd_same _,hN6.st hA6 ha,hS' _,o' _,fun _=>hR1.keep (ko _) (tne hR1.cells hA6 (by decide)) (by simp),fun _=>⟨hR.keep (ko _) (tne hR.cells hA6 (by decide)) (by simp),by have:=(hr1 (by omega)).cells.lt;omega⟩⟩
  rintro _ _ w5 ⟨ra,rb,hra,hrb,hA5,hN5,hS5,o5,hr3,hr4⟩
  refine ⟨fun _ w'=>∃ ra rb,w.heap.size≤ra∧w.heap.size≤rb∧Has w' a (.cells (arW 0 m g sp g.d.toNat sc (if 0<k+1 then some ⟨ra,0,none⟩ else none) (if 1<k+1 then some ⟨rb,0,none⟩ else none) none (decide (0<k+1)) (decide (1<k+1)) dk (decide (0<k+1)) 0 (decide (1<k+1)) 0 false mk g.d.toNat mc room 0) 143 (0,0)) ∧
   NewS w w' g w.heap.size m dk mk mc∧SetAt w' ⟨m,g,bks⟩ (newS g pw0)∧OwnL dLay w' w.heap.size 111 sp g.d.toNat sc (bks.map Prod.fst)∧(0<k+1→RaAt w' w.heap.size m ra 65536 none 0 0 [])∧(1<k+1→RaAt w' w.heap.size m rb 65536 none 0 0 []∧ra≠rb),?_,?_⟩
  ·intro d
   have kd:=Keep.drew (fun _=>False) w5 d
   have hN5:=hN5.keep0 kd
   have hS5:=hS5.keep0 kd
   have o5:=o5.keep kd (by simp)
   have hr3:=fun h=>(hr3 h).keep kd (by simp) (by simp)
   have hr4:=fun h=>And.intro ((hr4 h).1.keep kd (by simp) (by simp)) (hr4 h).2
   have hA5:Has (w5.dr d) _ _:=hA5
   clear kd
   generalize w5.dr d=w6 at *
   refine ⟨fun w'=>True,trivial,⟨by omega,by omega⟩,?_⟩
   refine StV_of hA5 (by show 0+13+Int.toNat (k:Int)*2<21;omega) rfl ⟨trivial,⟨by omega,by omega⟩,?_⟩
   refine StV_of (hA5.upd_same _) (by rw [Array.size_setIfInBounds];show 0+10+Int.toNat (k:Int)*1<21;omega) rfl ⟨trivial,?_⟩
   rw [upd_upd]
   have ko:∀ c,Keep (fun k=>k=a) w6 (w6.upd a (.cells c 143 (0,0))):=fun c=>Keep.one _ _ _
   have hS':=fun c=>hS5.keep (ko c) fun i hi e=>hS5.typ hA5 (by decide) (by decide) (by decide) (e ▸ hi)
   have o':=fun c=>o5.keep (ko c) fun b hb e=>by
    obtain ⟨_,cur,hh⟩:=own_has o5 b 0 hb
    exact tne hh hA5 (by decide) e
   refine ⟨ra,rb,hra,hrb,?_,hN5.st hA5 ha,hS' _,o' _,fun h=>(hr3 h).keep (ko _) (tne (hr3 h).cells hA5 (by decide)) (by simp),fun h=>⟨(hr4 h).1.keep (ko _) (tne (hr4 h).1.cells hA5 (by decide)) (by simp),(hr4 h).2⟩⟩
   match k,hc with
   | 0,_=>exact hA5.upd_same _
   | 1,_=>exact hA5.upd_same _
  rintro _ _ w6 ⟨ra,rb,hra,hrb,hA6,hN6,hS6,o6,hr5,hr6⟩
  have e1:IntKind.wrap .i64 ((k:Int)+1)=((k+1:Nat):Int):=by rw [wrapI (by omega) (by omega)];omega
  rw [e1]
  exact ⟨_,by show (2-((k+1:Nat):Int)).toNat<(2-(k:Int)).toNat;omega,⟨k+1,rfl,by omega,ra,rb,hra,hrb,hA6,hN6,hS6,o6,hr5,hr6⟩,rfl⟩
 ·have hc:k=2:=by simp only [decide_eq_false_iff_not] at hc;omega
  subst hc
  have hR1:=hr1 (by omega)
  obtain ⟨hR2,hne⟩:=hr2 (by omega)
  have hA4:Has w4 a (.cells (arW 0 m g sp g.d.toNat sc (some ⟨ra,0,none⟩) (some ⟨rb,0,none⟩) none true true dk true 0 true 0 false mk g.d.toNat mc room 0) 143 (0,0)):=hA4
  clear hr1 hr2
  refine ⟨fun _ w'=>∃ q,q.a=a∧q.g=g∧q.pb.room=room∧q.pb.sz=65536∧ArAt w' q 0 (arS0 g)∧ArFrom q w.heap.size∧Keep (fun _=>False) w w',?_,?_⟩
  ·intro d
   have kd:=Keep.drew (fun _=>False) w4 d
   have hN4:=hN4.keep0 kd
   have hS4:=hS4.keep0 kd
   have o4:=o4.keep kd (by simp)
   have hR1:=hR1.keep kd (by simp) (by simp)
   have hR2:=hR2.keep kd (by simp) (by simp)
   have hA4:Has (w4.dr d) _ _:=hA4
   clear kd
   generalize w4.dr d=w5 at *
   refine ⟨fun w'=>True,trivial,⟨by decide,by decide⟩,?_⟩
   refine LdV_has (v:=.pointer (some ⟨ra,0,none⟩)) hA4 rfl (OpN_some.2 ⟨⟨by decide,by decide⟩,?_⟩)
   refine LdV_has (v:=.pointer (some ⟨rb,0,none⟩)) hA4 rfl (OpN_some.2 ?_)
   refine pr_New (base:=w.heap.size) hN4.ma ⟨none,0,0,none,0,0,hR1,hR2,fun k h=>by cases h⟩ hne ⟨by decide,by decide⟩ ⟨by decide,by decide⟩ h1 h2 hN4.keep.size fun p c mp w6 hP k6 hp hmp=>T2_mk.2 (OpN_some.2 (zA.2 ⟨trivial,?_⟩))
   have hA6:=k6.has hA4 (by simp)
   have hN6:=hN4.keep0 k6
   have hS6:=hS4.keep0 k6
   have o6:=o4.keep k6 (by simp)
   have hz5:=hN4.keep.size
   refine StV_of hA6 (by show 0+9<21;decide) rfl ⟨trivial,?_⟩
   have ko:∀ c,Keep (fun k=>k=a) w6 (w6.upd a (.cells c 143 (0,0))):=fun c=>Keep.one _ _ _
   have hN7:=hN6.st (c':=(arW 0 m g sp g.d.toNat sc (some ⟨ra,0,none⟩) (some ⟨rb,0,none⟩) (some ⟨p,0,none⟩) true true dk true 0 true 0 false mk g.d.toNat mc room 0)) hA6 ha
   refine ⟨⟨a,g,bks,sp,sc,⟨p,c,mp,m,ra,rb,w.heap.size,room,65536⟩,dk,mk,mc⟩,rfl,rfl,rfl,rfl,⟨hA6.upd_same _,?_,?_,?_,hN7.desk,hN7.marks⟩,⟨ha,hN7.hd,by show w.heap.size≤p;omega,by show w.heap.size≤mp;omega,hN7.hm,hra,hrb,Nat.le_refl _,hfr⟩,hN7.keep⟩
   ·exact hS6.keep (ko _) fun i hi e=>hS6.typ hA6 (by decide) (by decide) (by decide) (e ▸ hi)
   ·exact o6.keep (ko _) fun b hb e=>by
     obtain ⟨_,cur,hh⟩:=own_has o6 b 0 hb
     exact tne hh hA6 (by decide) e
   ·exact hP.keepS (ko _) (fun i hi e=>PFoot.not hA6 (by decide) hP (by decide) (by decide) (by decide) (e ▸ hi)) (tne hP.cache.1 hA6 (by decide))
  rintro _ _ w5 ⟨q,hqa,hqg,hqr,hqs,hq,hqf,kq⟩
  subst hqa
  exact Ret_nil.2 (hK q w5 hqg hqr hqs hq hqf kq)
end calls
def livesA (s:AS) (f:Bool):Bool:=cond f s.lb s.la
def epA (s:AS) (f:Bool):Int:=cond f s.eb s.ea
def upA (s:AS) (f:Bool):Bool:=cond f s.ub s.ua
def readyA (s:AS) (f:Bool):Bool:=s.ps.pw.on && (livesA s f && decide (keyS s.ss≤epA s f))
def readA (q:AB) (s:AS) (lba:Int):Sec×Int:=if (getV s.ps.es lba).2.2=0 then ((getV s.ps.es lba).1,0) else readS q.g s.ss lba
theorem arC_ra (q:AB) (lk:Int) (s:AS):(arC q lk s).extract 7 (7+2)=#[.pointer (some ⟨q.pb.a,0,none⟩),.pointer (some ⟨q.pb.b,0,none⟩)]:=by
 apply Array.ext'
 simp only [Array.toList_extract,List.extract_eq_take_drop]
 rfl
theorem arC_set (q:AB) (lk:Int) (s:AS):(arC q lk s).extract 3 (3+4)=setV q.g q.sp q.g.d.toNat q.sc:=by
 apply Array.ext'
 simp only [Array.toList_extract,List.extract_eq_take_drop]
 rfl
theorem arC_geo (q:AB) (lk:Int) (s:AS):(arC q lk s).extract 3 (3+3)=geoV q.g:=by
 apply Array.ext'
 simp only [Array.toList_extract,List.extract_eq_take_drop]
 rfl
theorem other_side (f:Bool):IntKind.wrap .i64 (1-sideN f)=sideN (!f):=by cases f <;> decide +kernel
theorem side_rng (f:Bool):0≤sideN f∧sideN f<2:=by cases f <;> decide
section calls
variable {w:World} {q:AB} {lk:Int} {s:AS} {R:Value→World→Prop}
theorem ar_lock (h:ArAt w q 0 s) (hK:∀ w',ArAt w' q 1 s→Keep (fun k=>k=q.a) w w'→R (.tuple #[]) w'):zB Tryz.prog 75 #[.pointer (some ⟨q.a,0,none⟩)] w R :=
 mu_lock Tryz.muLib h.cells rfl (hK _ (h.put (lk':=1) (s':=s) rfl rfl rfl rfl) (Keep.one _ _ _))
theorem ar_unlock (h:ArAt w q 1 s) {K:World→Prop} (hK:∀ w',ArAt w' q 0 s→Keep (fun k=>k=q.a) w w'→K w'):CallDV Tryz.prog 76 #[.pointer (some ⟨q.a,0,none⟩)] w K :=
 mu_unlock Tryz.muLib h.cells rfl (hK _ (h.put (lk':=0) (s':=s) rfl rfl rfl rfl) (Keep.one _ _ _))
theorem ar_on (h:ArAt w q lk s) {K:Nat→Nat→Prop} (hK:K q.pb.m 0):LdV q.a 2 (At w) fun v=>OpN v K:=LdV_has (v:=.pointer (some ⟨q.pb.m,0,none⟩)) h.cells rfl (OpN_some.2 hK)
theorem ar_ready (h:ArAt w q lk s) (f:Bool) (hK:∀ w',Keep (fun _=>False) w w'→R (.bool (readyA s f)) w'):zB Tryz.prog 78 #[.pointer (some ⟨q.a,0,none⟩),.int .i64 (sideN f)] w R:=by
 apply C_array_Array_ready
 unfold F_array_Array_ready
 refine ⟨fun st w'=>st.1=readyA s f∧Keep (fun _=>False) w w',?_,?_⟩
 ·intro d
  have kd:=Keep.drew (fun _=>False) w d
  have hd:=h.keep0 kd
  generalize w.dr d=w1 at *
  refine ⟨fun w'=>Has w' q.a (.cells (arC q lk s) 143 (0,0)),hd.cells,rfl,rfl,?_⟩
  have e:(cond (decide (sideN f≥0)) (decide (sideN f≤1)) false)=true:=by cases f <;> rfl
  rw [e]
  refine (Cb_true (q:=_)).2 ?_
  refine LdV_of (v:=.pointer (some ⟨q.pb.m,0,none⟩)) (fun w' hw=>⟨_,_,_,hw,rfl⟩) (OpN_some.2 ?_)
  refine ma_On hd.pair.main (OpB_bool.2 ⟨hd.cells,?_⟩)
  refine Cb_of (fun hon=>?_) (fun hon=>⟨hd.cells,by unfold readyA;rw [hon];rfl,kd⟩)
  refine LdV_of (v:=.pointer (some ⟨q.pb.p,0,none⟩)) (fun w' hw=>⟨_,_,_,hw,rfl⟩) (OpP_some.2 ⟨side_rng f,?_⟩)
  refine LdV_of (v:=.bool (livesA s f)) (fun w' hw=>⟨_,_,_,hw,by cases f <;> rfl⟩) (OpB_bool.2 ?_)
  refine Cb_of (fun hl=>⟨side_rng f,?_⟩) (fun hl=>⟨hd.cells,by unfold readyA;rw [hon,hl];rfl,kd⟩)
  refine LdV_of (v:=.int .u32 (epA s f)) (fun w' hw=>⟨_,_,_,hw,by cases f <;> rfl⟩) (zA.2 ?_)
  refine LdA_has (cs:=setV q.g q.sp q.g.d.toNat q.sc) hd.cells (by show 3+4≤21;decide) (arC_set q lk s) ?_
  refine st_Key (q:=q.sb) hd.set hd.disks.sl hd.disks.cap.1 fun w2 k2=>zA.2 ⟨k2.has hd.cells (by simp),?_,kd.trans k2⟩
  show decide (epA s f≥keyS s.ss)=readyA s f
  unfold readyA
  rw [hon,hl]
  rfl
 rintro _ ⟨b,u⟩ w1 ⟨hb,k1⟩
 simp only at hb ⊢
 subst hb
 exact Ret_nil.2 (hK w1 k1)
theorem ar_alone0 (h:ArAt w q lk s) (f:Bool) (hq:upA s (!f)=false∨(livesA s (!f)=true∧s.split=false)) (hK:R (.int .i64 0) w):zB Tryz.prog 79 #[.pointer (some ⟨q.a,0,none⟩),.int .i64 (sideN f)] w R:=by
 apply C_array_Array_alone
 unfold F_array_Array_alone
 simp only [other_side]
 refine ⟨fun st w'=>st.1=true∧w'=w,⟨side_rng _,?_⟩,?_⟩
 ·refine LdV_has (v:=.bool (upA s (!f))) h.cells (by cases f <;> rfl) (OpB_bool.2 ?_)
  refine Cb_of (fun hu=>⟨rfl,rfl⟩) (fun hu=>⟨side_rng _,?_⟩)
  have hu:upA s (!f)=true:=by simpa using hu
  rcases hq with hq | ⟨hl,hs⟩
  ·rw [hu] at hq;cases hq
  refine LdV_has (v:=.bool (livesA s (!f))) h.cells (by cases f <;> rfl) (OpB_bool.2 ?_)
  rw [hl]
  refine (Cb_true (q:=_)).2 (LdV_has (v:=.bool s.split) h.cells rfl (OpB_bool.2 ⟨by rw [hs];rfl,rfl⟩))
 rintro _ ⟨b,u⟩ w1 ⟨hb,rfl⟩
 simp only at hb ⊢
 subst hb
 exact (Cb_true (q:=_)).2 (Ret_nil.2 hK)
def xsA (s:PS) (f:Bool):List Int:=cond f s.xb s.xa
theorem ar_shorten0 (h:ArAt w q lk s) (hr:∀ f,upA s f=true→64≤(q.pb.sz-((xsA s.ps f).length:Int)) / 37) (hK:∀ w',Keep (fun _=>False) w w'→R (.int .i64 0) w'):zB Tryz.prog 144 #[.pointer (some ⟨q.a,0,none⟩)] w R:=by
 apply C_array_Array_shorten
 unfold F_array_Array_shorten
 refine LdA_has (cs:=#[.pointer (some ⟨q.pb.a,0,none⟩),.pointer (some ⟨q.pb.b,0,none⟩)]) h.cells (by show 7+2≤21;decide) (arC_ra q lk s) ?_
 refine LoopC_of (σ:=Int×Unit) (fun st w'=>0≤st.1∧st.1≤2∧Keep (fun _=>False) w w') (fun st _=>(2-st.1).toNat) ⟨by decide,by decide,Keep.refl _ _⟩ ?_
 rintro _ ⟨i,u⟩ w1 ⟨hi0,hi2,k1⟩
 simp only at hi0 hi2 ⊢
 refine Cb_of (fun hc=>?_) (fun hc=>Ret_nil.2 (hK w1 k1))
 have hc:i<2:=by simpa using hc
 obtain ⟨f,hf⟩:∃ f,i=sideN f:=by
  by_cases h0:i=0
  ·exact ⟨false,h0⟩
  ·exact ⟨true,by show i=1;omega⟩
 subst hf
 have h1:=h.keep0 k1
 refine ⟨side_rng f,.pointer (some ⟨ramB q.pb f,0,none⟩),by cases f <;> rfl,OpN_some.2 ⟨side_rng f,?_⟩⟩
 refine LdV_has (v:=.bool (upA s f)) h1.cells (by cases f <;> rfl) (OpB_bool.2 ?_)
 have nx:∀ w2,Keep (fun _=>False) w w2→∃ m,m<(2-sideN f).toNat∧((0≤IntKind.wrap .i64 (sideN f+1)∧IntKind.wrap .i64 (sideN f+1)≤2∧Keep (fun _=>False) w w2)∧(2-IntKind.wrap .i64 (sideN f+1)).toNat=m):=fun w2 k2=>by
  rw [wrapI (by omega) (by omega)]
  exact ⟨_,by omega,⟨by omega,by omega,k2⟩,rfl⟩
 refine Cb_of (fun hu=>?_) (fun hu=>nx w1 k1)
 obtain ⟨pa,la,ca,pb,lb,cb,ha,hb,_⟩:=h1.pair.rams
 have go:∀ {p:Option Addr} {l c:Nat},RaAt w1 q.pb.base q.pb.m (ramB q.pb f) q.pb.sz p l c (xsA s.ps f)→((xsA s.ps f).length:Int)≤q.pb.sz→zB Tryz.prog 221 #[.pointer (some ⟨ramB q.pb f,0,none⟩)] w1 fun v2 w''=>OpI .i64 v2 fun n=>Cb (decide (n<64)) (LdV q.a 9 (At w'') fun v3=>OpN v3 fun b1 o1=>zB Tryz.prog 168 #[.pointer (some ⟨b1,o1,none⟩)] w'' fun v4 w=>OpI .i64 v4 fun n1=>Ret [] (R (.int .i64 n1) w))
   (∃ m,m<(2-sideN f).toNat∧((0≤IntKind.wrap .i64 (sideN f+1)∧IntKind.wrap .i64 (sideN f+1)≤2∧Keep (fun _=>False) w w'')∧(2-IntKind.wrap .i64 (sideN f+1)).toNat=m)):=fun hh hl=>by
  refine ra_Room hh h1.pair.form.1 h1.pair.form.2 (by rw [hh.row.length];exact hl) fun d=>zA.2 ?_
  rw [decide_eq_false (by have:=hr f hu;omega)]
  exact (Cb_false (p:=_)).2 (nx _ (k1.dr d))
 cases f with
 | false=>exact go ha h1.pair.fit.1
 | true=>exact go hb h1.pair.fit.2
theorem ar_capacity (h:ArAt w q lk s) (hK:∀ w',Keep (fun _=>False) w w'→R (.int .i64 ((q.g.d-2)*q.g.c*q.g.s)) w'):zB Tryz.prog 74 #[.pointer (some ⟨q.a,0,none⟩)] w R:=by
 apply C_array_Array_capacity
 unfold F_array_Array_capacity
 refine LdA_has (cs:=geoV q.g) h.cells (by show 3+3≤21;decide) (arC_geo q lk s) ?_
 exact l_Cap h.set.geo fun w1 k1=>T2_mk.2 (zA.2 (zA.2 (Ret_nil.2 (hK w1 k1))))
theorem ar_Capacity (h:ArAt w q lk s) (hK:∀ w',Keep (fun _=>False) w w'→R (.int .i64 ((q.g.d-2)*q.g.c*q.g.s)) w'):zB Tryz.prog 15 #[.pointer (some ⟨q.a,0,none⟩)] w R:=by
 apply C_array_Array_Capacity
 unfold F_array_Array_Capacity
 exact ar_capacity h fun w1 k1=>zA.2 (Ret_nil.2 (hK w1 k1))
theorem ar_Ready (h:ArAt w q lk s) (f:Bool) (hK:∀ w',Keep (fun _=>False) w w'→R (.bool (readyA s f)) w'):zB Tryz.prog 23 #[.pointer (some ⟨q.a,0,none⟩),.int .i64 (sideN f)] w R:=by
 apply C_array_Array_Ready
 unfold F_array_Array_Ready
 exact ar_ready h f fun w1 k1=>OpB_bool.2 (Ret_nil.2 (hK w1 k1))
theorem ar_Dirty (h:ArAt w q lk s) (hK:R (.int .i64 (s.ps.es.length:Int)) w):zB Tryz.prog 18 #[.pointer (some ⟨q.a,0,none⟩)] w R:=by
 apply C_array_Array_Dirty
 unfold F_array_Array_Dirty
 refine LdV_has (v:=.pointer (some ⟨q.pb.p,0,none⟩)) h.cells rfl (OpP_some.2 ?_)
 refine LdV_has (v:=.pointer (some ⟨q.pb.p,0,none⟩)) h.cells rfl (OpN_some.2 ?_)
 refine LdV_has (v:=.pointer (some ⟨q.pb.c,0,none⟩)) h.pair.cells rfl (OpN_some.2 ?_)
 exact cache_Len h.pair.cache (zA.2 (Ret_nil.2 hK))
theorem ar_read (h:ArAt w q lk s) (hok:∀ D∈s.ds,DskOk D) {lba:Int} (h0:0≤lba) (h1:lba<(q.g.d-2)*q.g.c*q.g.s) (hK:∀ w',Keep (fun _=>False) w w'→R (.tuple #[.agg (secV (readA q s lba).1),.int .i64 (readA q s lba).2]) w') :
  zB Tryz.prog 81 #[.pointer (some ⟨q.a,0,none⟩),.int .i64 lba] w R:=by
 apply C_array_Array_read
 unfold F_array_Array_read
 unfold readA at hK
 refine alc_fresh fun w1 hb1 k1 z1=>?_
 have h1':=h.keep0 k1
 refine LdV_has (v:=.pointer (some ⟨q.pb.p,0,none⟩)) h1'.cells rfl (OpN_some.2 ?_)
 refine pr_Get h1'.pair fun w2 k2=>T3_mk.2 (OpA_agg.2 ⟨rfl,zA.2 (zA.2 ?_)⟩)
 refine alc_fresh fun w3 hb3 k3 z3=>?_
 have hne:w.heap.size≠w2.heap.size:=by have:=k2.size;omega
 refine StA_all hb3 rfl (by rw [zc_sec];rfl) (one_secV _) ?_
 have k02:=k1.trans k2
 have k03:=k02.trans k3
 have k04:Keep (fun _=>False) w (w3.upd w2.heap.size (.cells (secV (getV s.ps.es lba).1) 37 (0,0))):=k03.upd (fun hi=>absurd hi (by have:=k02.size;omega)) _
 have hb4:=hb3.upd_same (.cells (secV (getV s.ps.es lba).1) 37 (0,0))
 have hb1':Has (w3.upd w2.heap.size (.cells (secV (getV s.ps.es lba).1) 37 (0,0))) w.heap.size _:=((k2.trans k3).has hb1 (by simp)).upd hne
 generalize w3.upd w2.heap.size _=w4 at *
 have bk:∀ {x:Sec} {w5:World},Keep (fun _=>False) w w5→Keep (fun _=>False) w (w5.upd w.heap.size (.cells (secV x) 37 (0,0))):=fun k=>k.upd (fun hi=>absurd hi (by omega)) _
 refine Cb_of (fun hc=>?_) (fun hc=>?_)
 ·have hc:(getV s.ps.es lba).2.2=0:=by simpa using hc
  rw [if_pos hc] at hK
  refine LdA_all hb4 rfl ?_
  refine StA_all hb1' rfl (by rw [zc_sec];rfl) (one_secV _) ?_
  refine LdA_all (hb1'.upd_same _) rfl (Ret_nil.2 ?_)
  rw [hc]
  exact hK _ (bk k04)
 ·have hc:¬ (getV s.ps.es lba).2.2=0:=by simpa using hc
  rw [if_neg hc] at hK
  have h4:=h.keep0 k04
  refine LdA_has (cs:=setV q.g q.sp q.g.d.toNat q.sc) h4.cells (by show 3+4≤21;decide) (arC_set q lk s) ?_
  refine st_Read (q:=q.sb) h4.set h4.disks.sl h4.disks.cap.1 hok h0 h1 fun w5 k5=>T2_mk.2 (OpA_agg.2 ⟨rfl,zA.2 ?_⟩)
  have hb5:=k5.has hb1' (by simp)
  refine StA_all hb5 rfl (by rw [zc_sec];rfl) (one_secV _) ?_
  exact LdA_all (hb5.upd_same _) rfl (Ret_nil.2 (hK _ (bk (k04.trans k5))))
end calls
end Go.Proofs
namespace Go.Proofs
open Go.Ev
set_option maxRecDepth 100000
def F_cdb_Check (c:Array Value) (capacity:Int) (w:World) (R:Value→World→Prop):Prop :=
 Alc 41 c w fun b w=>LdV b 0 (At w) fun v=>OpI .i64 v fun n=>JoinC (σ:=Int×Unit) (fun J1=>JoinC (σ:=Bool×Unit) (fun J2=>Cb (n==1) (J2 (n==1,()) w)
 (Cb (n==4) (J2 (n==4,()) w) (Cb (n==7) (J2 (n==7,()) w) (Cb (n==9) (J2 (n==9,()) w) (J2 (n==10,()) w))))) (fun _ s2 w=>Cb s2.1 (Ret [] (R (.int .i64 0)
 w)) (Cb (n==8) (LdV b 5 (At w) fun v1=>OpI .i64 v1 fun n1=>Cb (decide (n1<1)) (Ret [] (R (.int .i64 2) w)) (LdV b 5 (At w) fun v2=>OpI .i64 v2 fun n2=>Cb
 (decide (n2>4)) (Ret [] (R (.int .i64 2) w)) (Ret [] (R (.int .i64 0) w)))) (Cb (n==11) (LdV b 4 (At w) fun v3=>OpI .u64 v3 fun n3=>Cb (n3==0) (Ret [] (R (.int
 .i64 2) w)) (Ret [] (R (.int .i64 0) w))) (JoinC (σ:=Bool×Unit) (fun J3=>Cb (n==2) (J3 (n==2,()) w) (J3 (n==6,()) w)) (fun _ s3 w=>Cb s3.1 (LdV b 2 (At w)
 fun v4=>OpI .i64 v4 fun n4=>J1 (n4,()) w) (Cb (n==3) (LdV b 3 (At w) fun v5=>OpS v5 fun p l c1=>J1 (((l:Nat):Int),()) w) (Cb (n==5) (LdV b 3 (At w) fun
 v6=>OpS v6 fun p1 l1 c2=>Cb (((l1:Nat):Int)==2) (J1 (1,()) w) (J1 (0,()) w)) (J1 (0,()) w))))))))) (fun _ s1 w=>Req ((decide (s1.1<1))=(decide (s1.1 <
 1))) (Req ((decide (s1.1<1))=(decide (s1.1<1))) (Cb (cond (decide (s1.1<1)) true (decide (s1.1>8))) (Req (true=true) (Req (true=true) (Req (true=true) (Ret
 [] (R (.int .i64 2) w))))) (LdV b 1 (At w) fun v7=>OpI .i64 v7 fun n5=>Req ((decide (n5<0))=(decide (n5<0))) (Req ((decide (n5<0))=(decide (n5<0))) (Req
 ((decide (n5<0))=(decide (n5<0))) (Cb (cond (decide (n5<0)) true (decide (capacity<s1.1))) (Ret [] (R (.int .i64 2) w)) (LdV b 1 (At w) fun v8=>OpI .i64 v8 fun
 n6=>Cb (decide (n6>IntKind.wrap .i64 (capacity-s1.1))) (Ret [] (R (.int .i64 2) w)) (Ret [] (R (.int .i64 0) w))))))))))
theorem C_cdb_Check {c:Array Value} {capacity:Int} {w:World} {R:Value→World→Prop} (h:F_cdb_Check c capacity w R):zB Tryz.prog 147 #[.agg c,.int .i64 capacity] w R:=by
 exact zE (args:=[.agg c,.int .i64 capacity]) (mkAnn [] [(0,[(5,(.int .i64))])] [(50004,[(8,.bool)]),(50018,[(29,.bool)])] [] []) zD Tryz.func147 rfl rfl (by kernel_rfl) h
def F_model_Gate (d:Nat) (capacity:Int) (init:Int) (c:Array Value) (w:World) (R:Value→World→Prop):Prop :=
 Alc 41 c w fun b w=>Alc 34 (zc Tryz.prog 34) w fun b1 w=>Req ((decide (init<0))=(decide (init<0))) (Req ((decide (init<0))=(decide (init<0))) (Cb (cond
 (decide (init<0)) true (decide (init≥16))) (DoQ Tryz.prog (Instr.build 34 #[(0,.int .i64 2),(1,.int .i64 5)]) (At w) fun v=>OpA 3 v fun cs=>StA 3 b1 0 cs w fun
 w=>LdA 3 b1 0 (At w) fun cs1=>Ret [] (R (.tuple #[.agg cs1,.bool true]) w)) (LdA 7 b 0 (At w) fun cs2=>zB Tryz.prog 147 #[.agg cs2,.int .i64 capacity] w fun v1
 w=>OpI .i64 v1 fun n=>Cb (n !=0) (DoQ Tryz.prog (Instr.build 34 #[(0,.int .i64 2),(1,.int .i64 5)]) (At w) fun v2=>OpA 3 v2 fun cs3=>StA 3 b1 0 cs3 w fun w =>
 LdA 3 b1 0 (At w) fun cs4=>Ret [] (R (.tuple #[.agg cs4,.bool true]) w)) (LdV b 0 (At w) fun v3=>OpI .i64 v3 fun n1=>JoinC (σ:=Int×Unit) (fun J1=>Cb (n1==2)
 (DoQ Tryz.prog (Instr.build 34 #[(0,.int .i64 3)]) (At w) fun v4=>OpA 3 v4 fun cs5=>zB Tryz.prog 148 #[.pointer (some ⟨d,0,none⟩),.int .i64 init,.bool false] w
 fun v5 w=>OpB v5 fun g=>StA 3 b1 0 cs5 w fun w=>LdA 3 b1 0 (At w) fun cs6=>Ret [] (R (.tuple #[.agg cs6,.bool (!g)]) w)) (JoinC (σ:=Bool×Unit) (fun J2=>Cb
 (n1==3) (J2 (n1==3,()) w) (Cb (n1==5) (J2 (n1==5,()) w) (J2 (n1==6,()) w))) (fun _ s2 w=>Cb s2.1 (DoQ Tryz.prog (Instr.build 34 #[(0,.int .i64 3)]) (At w)
 fun v6=>OpA 3 v6 fun cs7=>zB Tryz.prog 148 #[.pointer (some ⟨d,0,none⟩),.int .i64 init,.bool true] w fun v7 w=>OpB v7 fun g1=>StA 3 b1 0 cs7 w fun w=>LdA
 3 b1 0 (At w) fun cs8=>Ret [] (R (.tuple #[.agg cs8,.bool (!g1)]) w)) (Cb (n1==7) (LdV b 4 (At w) fun v8=>OpI .u64 v8 fun n2=>LdV b 6 (At w) fun v9=>OpB v9 fun
 g2=>zB Tryz.prog 149 #[.pointer (some ⟨d,0,none⟩),.int .i64 init,.int .u64 n2,.bool g2] w fun v10 w=>OpI .i64 v10 fun n3=>J1 (n3,()) w) (Cb (n1==8) (LdV b
 5 (At w) fun v11=>OpI .i64 v11 fun n4=>zB Tryz.prog 150 #[.pointer (some ⟨d,0,none⟩),.int .i64 init,.int .i64 n4] w fun v12 w=>OpI .i64 v12 fun n5=>J1 (n5,
 ()) w) (Cb (n1==9) (zB Tryz.prog 151 #[.pointer (some ⟨d,0,none⟩),.int .i64 init] w fun v13 w=>OpI .i64 v13 fun n6=>J1 (n6,()) w) (Cb (n1==10) (zB
 Tryz.prog 152 #[.pointer (some ⟨d,0,none⟩),.int .i64 init] w fun v14 w=>OpI .i64 v14 fun n7=>J1 (n7,()) w) (Cb (n1==11) (LdV b 4 (At w) fun v15=>OpI .u64 v15
 fun n8=>zB Tryz.prog 153 #[.pointer (some ⟨d,0,none⟩),.int .i64 init,.int .u64 n8] w fun v16 w=>OpI .i64 v16 fun n9=>J1 (n9,()) w) (DoQ Tryz.prog
 (Instr.build 34 #[]) (At w) fun v17=>OpA 3 v17 fun cs9=>StA 3 b1 0 cs9 w fun w=>LdA 3 b1 0 (At w) fun cs10=>Ret [] (R (.tuple #[.agg cs10,.bool false])
 w)))))))))) (fun _ s1 w=>Cb (s1.1 !=0) (DoQ Tryz.prog (Instr.build 34 #[(0,.int .i64 3)]) (At w) fun v18=>OpA 3 v18 fun cs11=>StA 3 b1 0 cs11 w fun w=>LdA 3 b1 0
 (At w) fun cs12=>Ret [] (R (.tuple #[.agg cs12,.bool true]) w)) (DoQ Tryz.prog (Instr.build 34 #[(0,.int .i64 1)]) (At w) fun v19=>OpA 3 v19 fun cs13=>StA 3 b1 0
 cs13 w fun w=>LdA 3 b1 0 (At w) fun cs14=>Ret [] (R (.tuple #[.agg cs14,.bool true]) w)))))))
theorem C_model_Gate {d:Nat} {capacity:Int} {init:Int} {c:Array Value} {w:World} {R:Value→World→Prop} (h:F_model_Gate d capacity init c w R):zB Tryz.prog 80 #[.pointer (some ⟨d,0,none⟩),.int .i64 capacity,.int .i64 init,.agg c] w R:=by
 exact zE (args:=[.pointer (some ⟨d,0,none⟩),.int .i64 capacity,.int .i64 init,.agg c]) (mkAnn [] [(0,[(10,(.int .i64))])] [(50009,[(34,.bool)])] [] []) zD Tryz.func80 rfl rfl (by kernel_rfl) h
end Go.Proofs
namespace Go.Proofs
open Go Go.Ev
set_option maxRecDepth 100000
structure Cmd where
 k:Int
 lba:Int
 n:Int
 dp:Option Addr
 dl:Nat
 dc:Nat
 key:Int
 ty:Int
 kp:Bool
def cmdC (c:Cmd):Array Value:=#[.int .i64 c.k,.int .i64 c.lba,.int .i64 c.n,.slice c.dp c.dl c.dc,.int .u64 c.key,.int .i64 c.ty,.bool c.kp]
def repC (st se:Int) (p:Option Addr) (l c:Nat):Array Value:=#[.int .i64 st,.int .i64 se,.slice p l c]
def cntC (c:Cmd):Int:=if c.k=2 then c.n else (c.dl:Int)
def cdE (c:Cmd) (cap:Int):Int:=if c.k=4 then 0 else if cntC c<1∨8<cntC c∨c.lba<0∨cap<cntC c∨cap-cntC c<c.lba then 2 else 0
def gateD (d:Dk) (cap init:Int) (c:Cmd):(Int×Int)×Bool :=
 if init<0∨16≤init∨cdE c cap≠0 then ((2,5),true) else if c.k=4 then ((0,0),false) else ((3,0),!mayD d init (decide (c.k=3)))
theorem one_cmdC (c:Cmd):∀ v∈(cmdC c).toList,oneV v=true:=by
 intro v hv
 simp only [cmdC,List.mem_cons,List.not_mem_nil,or_false] at hv
 rcases hv with rfl | rfl | rfl | rfl | rfl | rfl | rfl <;> rfl
theorem one_repC (st se:Int) (p:Option Addr) (l c:Nat):∀ v∈(repC st se p l c).toList,oneV v=true:=by
 intro v hv
 simp only [repC,List.mem_cons,List.not_mem_nil,or_false] at hv
 rcases hv with rfl | rfl | rfl <;> rfl
theorem zc_rep:zc Tryz.prog 34=repC 0 0 none 0 0:=by kernel_rfl
theorem bld_rep0 (w:World):(Instr.build 34 #[]).run Tryz.prog w=.ok (.agg (repC 0 0 none 0 0)) w:=run_build _ _ _ _ (by kernel_rfl)
theorem bld_rep1 (x:Int) (w:World):(Instr.build 34 #[(0,.int .i64 x)]).run Tryz.prog w=.ok (.agg (repC x 0 none 0 0)) w:=run_build _ _ _ _ (by kernel_rfl)
theorem bld_rep2 (x y:Int) (w:World):(Instr.build 34 #[(0,.int .i64 x),(1,.int .i64 y)]).run Tryz.prog w=.ok (.agg (repC x y none 0 0)) w:=run_build _ _ _ _ (by kernel_rfl)
section calls
variable {w:World} {R:Value→World→Prop}
theorem cd_Check {c:Cmd} (hk:c.k=2∨c.k=3∨c.k=4) {cap:Int} (hc0:0≤cap) (hc1:cap≤1000000) (hK:∀ w',Keep (fun _=>False) w w'→R (.int .i64 (cdE c cap)) w'):zB Tryz.prog 147 #[.agg (cmdC c),.int .i64 cap] w R:=by
 apply C_cdb_Check
 unfold F_cdb_Check
 refine alc_fresh fun w1 hb1 k1 z1=>?_
 refine LdV_has (v:=.int .i64 c.k) hb1 rfl (zA.2 ?_)
 have hd:∀ a b:Int,(a==b)=decide (a=b):=fun a b=>by rw [Bool.eq_iff_iff];simp
 have n1:(c.k==1)=false:=by rw [hd];exact decide_eq_false (by omega)
 have n7:(c.k==7)=false:=by rw [hd];exact decide_eq_false (by omega)
 have n8:(c.k==8)=false:=by rw [hd];exact decide_eq_false (by omega)
 have n9:(c.k==9)=false:=by rw [hd];exact decide_eq_false (by omega)
 have n10:(c.k==10)=false:=by rw [hd];exact decide_eq_false (by omega)
 have n11:(c.k==11)=false:=by rw [hd];exact decide_eq_false (by omega)
 have n6:(c.k==6)=false:=by rw [hd];exact decide_eq_false (by omega)
 simp only [n1,n7,n8,n9,n10,n11,n6]
 unfold cdE at hK
 refine ⟨fun st w'=>w'=w1∧st.1=cntC c∧¬ c.k=4,?_,?_⟩
 ·refine ⟨fun st w'=>w'=w1∧st.1=decide (c.k=4),?_,?_⟩
  ·refine (Cb_false (p:=_)).2 (Cb_of (fun h=>⟨rfl,by rw [← hd]⟩) (fun h=>?_))
   exact (Cb_false (p:=_)).2 ((Cb_false (p:=_)).2 ⟨rfl,by rw [← hd];exact h.symm⟩)
  rintro _ ⟨b,u⟩ w2 ⟨rfl,hb⟩
  simp only at hb ⊢
  subst hb
  refine Cb_of (fun h4=>?_) (fun h4=>?_)
  ·have h4:c.k=4:=by simpa using h4
   rw [if_pos h4] at hK
   exact Ret_nil.2 (hK w2 k1)
  have h4:¬ c.k=4:=by simpa using h4
  refine (Cb_false (p:=_)).2 ((Cb_false (p:=_)).2 ⟨fun st w'=>w'=w2∧st.1=decide (c.k=2),?_,?_⟩)
  ·exact Cb_of (fun h=>⟨rfl,by rw [← hd]⟩) (fun h=>⟨rfl,by rw [← hd];exact h.symm⟩)
  rintro _ ⟨b,u⟩ w3 ⟨rfl,hb⟩
  simp only at hb ⊢
  subst hb
  refine Cb_of (fun h2=>?_) (fun h2=>?_)
  ·have h2:c.k=2:=by simpa using h2
   exact LdV_has (v:=.int .i64 c.n) hb1 rfl (zA.2 ⟨by trivial,by unfold cntC;rw [if_pos h2],h4⟩)
  ·have h2:¬ c.k=2:=by simpa using h2
   have e3:(c.k==3)=true:=by rw [hd];exact decide_eq_true (by omega)
   rw [e3]
   exact (Cb_true (q:=_)).2 (LdV_has (v:=.slice c.dp c.dl c.dc) hb1 rfl (zC.2 ⟨by trivial,by unfold cntC;rw [if_neg h2],h4⟩))
 rintro _ ⟨n,u⟩ w2 ⟨rfl,hn,h4⟩
 simp only at hn ⊢
 subst hn
 rw [if_neg h4] at hK
 refine ⟨by trivial,by trivial,?_⟩
 refine Cb_of (fun h=>⟨by trivial,by trivial,by trivial,?_⟩) (fun h=>?_)
 ·rw [if_pos (by
   by_cases hx:cntC c<1
   ·exact Or.inl hx
   ·rw [decide_eq_false hx] at h
    exact Or.inr (Or.inl (by simpa using h)))] at hK
  exact Ret_nil.2 (hK w2 k1)
 have h1:¬ cntC c<1:=fun hx=>by rw [decide_eq_true hx] at h;cases h
 have h2:¬ 8<cntC c:=fun hx=>by rw [decide_eq_false h1] at h;simp at h;omega
 refine LdV_has (v:=.int .i64 c.lba) hb1 rfl (zA.2 ⟨by trivial,by trivial,by trivial,?_⟩)
 refine Cb_of (fun h=>?_) (fun h=>?_)
 ·rw [if_pos (by
   by_cases hx:c.lba<0
   ·exact Or.inr (Or.inr (Or.inl hx))
   ·rw [decide_eq_false hx] at h
    exact Or.inr (Or.inr (Or.inr (Or.inl (by simpa using h)))))] at hK
  exact Ret_nil.2 (hK w2 k1)
 have h3:¬ c.lba<0:=fun hx=>by rw [decide_eq_true hx] at h;cases h
 have h5:¬ cap<cntC c:=fun hx=>by rw [decide_eq_false h3] at h;simp at h;omega
 refine LdV_has (v:=.int .i64 c.lba) hb1 rfl (zA.2 ?_)
 rw [wrapI (by omega) (by omega)]
 refine Cb_of (fun h=>?_) (fun h=>?_)
 ·have h:c.lba>cap-cntC c:=by simpa using h
  rw [if_pos (by omega)] at hK
  exact Ret_nil.2 (hK w2 k1)
 ·have h:¬ c.lba>cap-cntC c:=by simpa using h
  rw [if_neg (by omega)] at hK
  exact Ret_nil.2 (hK w2 k1)
theorem md_Gate {b:Nat} {d:Dk} (hd:DkAt w b d) {c:Cmd} (hk:c.k=2∨c.k=3∨c.k=4) {cap init:Int} (hc0:0≤cap) (hc1:cap≤1000000)
  (hK:∀ w',Keep (fun _=>False) w w'→R (.tuple #[.agg (repC (gateD d cap init c).1.1 (gateD d cap init c).1.2 none 0 0),.bool (gateD d cap init c).2]) w') :
  zB Tryz.prog 80 #[.pointer (some ⟨b,0,none⟩),.int .i64 cap,.int .i64 init,.agg (cmdC c)] w R:=by
 apply C_model_Gate
 unfold F_model_Gate
 unfold gateD at hK
 refine alc_fresh fun w1 hb1 k1 z1=>?_
 refine alc_fresh fun w2 hb2 k2 z2=>?_
 rw [zc_rep] at hb2
 have k02:=k1.trans k2
 have hbc:=k2.has hb1 (by simp)
 have fin:∀ {x y:Int} {w3:World} {g:Bool} {K:Value→World→Prop},Keep (fun _=>False) w2 w3→(∀ w',Keep (fun _=>False) w w'→K (.tuple #[.agg (repC x y none 0 0),.bool g]) w')→StA 3 w1.heap.size 0 (repC x y none 0 0) w3 fun w=>LdA 3 w1.heap.size 0 (At w) fun cs=>Ret [] (K (.tuple #[.agg cs,.bool g]) w):=fun k hh=>by
  have hb:=k.has hb2 (by simp)
  refine StA_all hb rfl rfl (one_repC _ _ _ _ _) (LdA_all (hb.upd_same _) rfl (Ret_nil.2 (hh _ ((k02.trans k).upd (fun hi=>absurd hi (by have:=k1.size;omega)) _))))
 refine ⟨rfl,rfl,?_⟩
 refine Cb_of (fun h=>?_) (fun h=>?_)
 ·rw [if_pos (by
   by_cases hx:init<0
   ·exact Or.inl hx
   ·rw [decide_eq_false hx] at h
    exact Or.inr (Or.inl (by simpa using h)))] at hK
  exact DoQ_of (fun _=>bld_rep2 2 5 _) (OpA_agg.2 ⟨rfl,fin (Keep.refl _ _) hK⟩)
 have h1:¬ init<0:=fun hx=>by rw [decide_eq_true hx] at h;cases h
 have h2:¬ 16≤init:=fun hx=>by rw [decide_eq_false h1] at h;simp at h;omega
 refine LdA_all hbc rfl ?_
 refine cd_Check hk hc0 hc1 fun w3 k3=>zA.2 ?_
 refine Cb_of (fun h=>?_) (fun h=>?_)
 ·have h:¬ cdE c cap=0:=by simpa using h
  rw [if_pos (Or.inr (Or.inr h))] at hK
  exact DoQ_of (fun _=>bld_rep2 2 5 _) (OpA_agg.2 ⟨rfl,fin k3 hK⟩)
 have h3:cdE c cap=0:=by simpa using h
 rw [if_neg (by rintro (h | h | h) <;> contradiction)] at hK
 have hd3:DkAt w3 b d:=(k02.trans k3).has (show Has w _ _ from hd) (by simp)
 refine LdV_has (v:=.int .i64 c.k) (k3.has hbc (by simp)) rfl (zA.2 ?_)
 have hdd:∀ a b:Int,(a==b)=decide (a=b):=fun a b=>by rw [Bool.eq_iff_iff];simp
 have n5:(c.k==5)=false:=by rw [hdd];exact decide_eq_false (by omega)
 have n6:(c.k==6)=false:=by rw [hdd];exact decide_eq_false (by omega)
 have n7:(c.k==7)=false:=by rw [hdd];exact decide_eq_false (by omega)
 have n8:(c.k==8)=false:=by rw [hdd];exact decide_eq_false (by omega)
 have n9:(c.k==9)=false:=by rw [hdd];exact decide_eq_false (by omega)
 have n10:(c.k==10)=false:=by rw [hdd];exact decide_eq_false (by omega)
 have n11:(c.k==11)=false:=by rw [hdd];exact decide_eq_false (by omega)
 simp only [n5,n6,n7,n8,n9,n10,n11]
 refine ⟨fun _ _=>False,?_,fun _ _ _ h=>h.elim⟩
 refine Cb_of (fun h=>?_) (fun h=>?_)
 ·have h:c.k=2:=by simpa using h
  rw [if_neg (by omega),decide_eq_false (by omega)] at hK
  exact DoQ_of (fun _=>bld_rep1 3 _) (OpA_agg.2 ⟨rfl,rs_May hd3 init false (OpB_bool.2 (fin k3 hK))⟩)
 have h:¬ c.k=2:=by simpa using h
 refine ⟨fun st w'=>st.1=decide (c.k=3)∧w'=w3,?_,?_⟩
 ·exact Cb_of (fun h=>⟨by rw [← hdd],rfl⟩) (fun h=>(Cb_false (p:=_)).2 ⟨by rw [← hdd];exact h.symm,rfl⟩)
 rintro _ ⟨g,u⟩ w4 ⟨hg,rfl⟩
 simp only at hg ⊢
 subst hg
 refine Cb_of (fun h=>?_) (fun h=>?_)
 ·have h:c.k=3:=by simpa using h
  rw [if_neg (by omega),decide_eq_true h] at hK
  exact DoQ_of (fun _=>bld_rep1 3 _) (OpA_agg.2 ⟨rfl,rs_May hd3 init true (OpB_bool.2 (fin k3 hK))⟩)
 ·have h:¬ c.k=3:=by simpa using h
  rw [if_pos (by omega)] at hK
  exact (Cb_false (p:=_)).2 ((Cb_false (p:=_)).2 ((Cb_false (p:=_)).2 ((Cb_false (p:=_)).2 ((Cb_false (p:=_)).2 (DoQ_of (fun _=>bld_rep0 _) (OpA_agg.2 ⟨rfl,fin k3 hK⟩))))))
end calls
def DoBody (a:Nat) (side:Int) (b b1:Nat) (w:World) (R:Value→World→Prop):Prop :=
 DoQ Tryz.prog (Instr.build 34 #[(0,.int .i64 1)]) (At w) fun v21=>OpA 3 v21 fun cs14=>Alc 34 (zc Tryz.prog 34) w fun b7 w=>StA 3 b7 0 cs14 w fun w=>LdV b 0 (At w) fun v22=>OpI .i64 v22 fun n3=>JoinC (σ:=Unit) (fun J2=>Cb (n3==2) (LdV b 2 (At w) fun v23=>OpI .i64 v23 fun n4=>LoopC (σ:=Int×Unit) (fun _ s3 w K3=>Cb (decide (s3.1<n4)) (LdV b 1 (At w) fun v24=>OpI .i64 v24 fun n5=>zB Tryz.prog 81 #[.pointer (some ⟨a,0,none⟩),.int .i64 (IntKind.wrap .i64 (n5+s3.1))] w fun v25 w=>T2 v25 fun v26 v27=>OpA 16 v26 fun cs15=>OpI .i64 v27 fun n6=>Alc 37 (zc Tryz.prog 37) w fun b8 w=>StA 16 b8 0 cs15 w fun w=>Cb (n6 !=0) (zB Tryz.prog 77 #[.pointer (some ⟨a,0,none⟩),.int .i64 3] w fun v28 w=>OpA 3 v28 fun cs16=>StA 3 b1 0 cs16 w fun w=>CallDV Tryz.prog 76 #[.pointer (some ⟨a,0,none⟩)] w fun w=>LdA 3 b1 0 (At w) fun cs17=>R (.agg cs17) w) (LdV b7 2 (At w) fun v29=>OpS v29 fun p l c1=>LdA 16 b8 0 (At w) fun cs18=>DoV Tryz.prog (Instr.buildSlice 32 1 #[(0,.agg cs18)]) w fun v30 w=>OpS v30 fun p1 l1 c2=>DoV Tryz.prog (Builtin.append_ #[32,32] 32 #[.slice p l c1,.slice p1 l1 c2]) w fun v31 w=>OpS v31 fun p2 l2 c3=>StV b7 2 (.slice p2 l2 c3) w fun w=>K3 (IntKind.wrap .i64 (s3.1+1),()) w)) (J2 () w)) (0,()) w) (JoinC (σ:=Bool×Unit) (fun J4=>Cb (n3==3) (J4 (n3==3,()) w) (J4 (n3==6,()) w)) (fun _ s4 w=>Cb s4.1 (LdV b 3 (At w) fun v32=>OpS v32 fun p3 l3 c4=>LdV b 0 (At w) fun v33=>OpI .i64 v33 fun n7=>JoinC (σ:=(Option Addr×Nat×Nat)×Unit) (fun J5=>Cb (n7==6) (LdV b 2 (At w) fun v34=>OpI .i64 v34 fun n8=>DoV Tryz.prog (Instr.makeSlice 32 (.int .i64 n8) (.int .i64 n8)) w fun v35 w=>OpS v35 fun p4 l4 c5=>J5 ((p4,l4,c5),()) w) (J5 ((p3,l3,c4),()) w)) (fun _ s5 w=>LoopC (σ:=Int×Unit) (fun _ s6 w K6=>Cb (decide (s6.1<((s5.1.2.1:Nat):Int))) (IdxS s5.1.1 s5.1.2.1 s6.1 16 fun b9 o2=>LdA 16 b9 o2 (At w) fun cs19=>Alc 37 (zc Tryz.prog 37) w fun b10 w=>StA 16 b10 0 cs19 w fun w=>LdV b 1 (At w) fun v36=>OpI .i64 v36 fun n9=>LdA 16 b10 0 (At w) fun cs20=>zB Tryz.prog 82 #[.pointer (some ⟨a,0,none⟩),.int .i64 side,.int .i64 (IntKind.wrap .i64 (n9+s6.1)),.agg cs20] w fun v37 w=>OpI .i64 v37 fun n10=>Cb (n10 !=0) (zB Tryz.prog 77 #[.pointer (some ⟨a,0,none⟩),.int .i64 13] w fun v38 w=>OpA 3 v38 fun cs21=>StA 3 b1 0 cs21 w fun w=>CallDV Tryz.prog 76 #[.pointer (some ⟨a,0,none⟩)] w fun w=>LdA 3 b1 0 (At w) fun cs22=>R (.agg cs22) w) (K6 (IntKind.wrap .i64 (s6.1+1),()) w)) (J2 () w)) (0,()) w)) (Cb (n3==5) (LdV b 1 (At w) fun v39=>OpI .i64 v39 fun n11=>zB Tryz.prog 81 #[.pointer (some ⟨a,0,none⟩),.int .i64 n11] w fun v40 w=>T2 v40 fun v41 v42=>OpA 16 v41 fun cs23=>OpI .i64 v42 fun n12=>Alc 37 (zc Tryz.prog 37) w fun b11 w=>StA 16 b11 0 cs23 w fun w=>JoinC (σ:=Unit) (fun J7=>Cb (n12 !=0) (zB Tryz.prog 77 #[.pointer (some ⟨a,0,none⟩),.int .i64 3] w fun v43 w=>OpA 3 v43 fun cs24=>StA 3 b1 0 cs24 w fun w=>CallDV Tryz.prog 76 #[.pointer (some ⟨a,0,none⟩)] w fun w=>LdA 3 b1 0 (At w) fun cs25=>R (.agg cs25) w) (LdA 16 b11 0 (At w) fun cs26=>LdV b 3 (At w) fun v44=>OpS v44 fun p5 l5 c6=>IdxS p5 l5 0 16 fun b12 o3=>LdA 16 b12 o3 (At w) fun cs27=>EqB Tryz.prog .neq 37 (.tmp 155) (.tmp 159) (.agg cs26:Value) (.agg cs27:Value) (At w) fun g5=>Drw w fun w=>Cb g5 (zB Tryz.prog 77 #[.pointer (some ⟨a,0,none⟩),.int .i64 14] w fun v45 w=>OpA 3 v45 fun cs28=>StA 3 b1 0 cs28 w fun w=>CallDV Tryz.prog 76 #[.pointer (some ⟨a,0,none⟩)] w fun w=>LdA 3 b1 0 (At w) fun cs29=>R (.agg cs29) w) (J7 () w))) (fun _ s7 w=>HeldR w fun S w=>LdV b 1 (At w) fun v46=>OpI .i64 v46 fun n13=>LdV b 3 S fun v47=>OpS v47 fun p6 l6 c7=>IdxS p6 l6 1 16 fun b13 o4=>LdA 16 b13 o4 (At w) fun cs30=>zB Tryz.prog 82 #[.pointer (some ⟨a,0,none⟩),.int .i64 side,.int .i64 n13,.agg cs30] w fun v48 w=>OpI .i64 v48 fun n14=>Hld (S w) (Cb (n14 !=0) (zB Tryz.prog 77 #[.pointer (some ⟨a,0,none⟩),.int .i64 13] w fun v49 w=>OpA 3 v49 fun cs31=>StA 3 b1 0 cs31 w fun w=>CallDV Tryz.prog 76 #[.pointer (some ⟨a,0,none⟩)] w fun w=>LdA 3 b1 0 (At w) fun cs32=>R (.agg cs32) w) (J2 () w)))) (Cb (n3==4) (LoopC (σ:=Unit) (fun _ s8 w K8=>LdV a 9 (At w) fun v50=>OpN v50 fun b14 o5=>LdV b14 o5 (At w) fun v51=>OpN v51 fun b15 o6=>zB Tryz.prog 83 #[.pointer (some ⟨b15,o6,none⟩)] w fun v52 w=>OpI .i64 v52 fun n15=>Cb (decide (n15>0)) (zB Tryz.prog 84 #[.pointer (some ⟨a,0,none⟩),.int .i64 side] w fun v53 w=>OpI .i64 v53 fun n16=>Cb (n16 !=0) (zB Tryz.prog 77 #[.pointer (some ⟨a,0,none⟩),.int .i64 3] w fun v54 w=>OpA 3 v54 fun cs33=>StA 3 b1 0 cs33 w fun w=>CallDV Tryz.prog 76 #[.pointer (some ⟨a,0,none⟩)] w fun w=>LdA 3 b1 0 (At w) fun cs34=>R (.agg cs34) w) (K8 () w)) (J2 () w)) () w) (J2 () w)))))) (fun _ s2 w=>LdA 3 b7 0 (At w) fun cs35=>StA 3 b1 0 cs35 w fun w=>CallDV Tryz.prog 76 #[.pointer (some ⟨a,0,none⟩)] w fun w=>LdA 3 b1 0 (At w) fun cs36=>R (.agg cs36) w)
def ArF (q:AB) (w:World) (k:Nat):Prop:=k=q.a∨SFoot q.sb k∨PFoot q.pb w k
section plain
variable {w w1 w2 w':World} {q:AB} {lk:Int} {s:AS}
theorem ArF.trans (h:Keep (ArF q w) w w1) (k:Keep (ArF q w1) w1 w2):Keep (ArF q w) w w2 :=
 h.trans' k fun i hi hf=>Classical.byContradiction fun hn=>by
  rcases hf with e | e | e | e | e | e | e | ⟨hb,cs,hc⟩
  ·exact hn (Or.inl e)
  ·exact hn (Or.inr (Or.inl e))
  ·exact hn (Or.inr (Or.inr (Or.inl e)))
  ·exact hn (Or.inr (Or.inr (Or.inr (Or.inl e))))
  ·exact hn (Or.inr (Or.inr (Or.inr (Or.inr (Or.inl e)))))
  ·exact hn (Or.inr (Or.inr (Or.inr (Or.inr (Or.inr (Or.inl e))))))
  ·exact hn (Or.inr (Or.inr (Or.inr (Or.inr (Or.inr (Or.inr (Or.inl e)))))))
  ·exact hn (Or.inr (Or.inr (Or.inr (Or.inr (Or.inr (Or.inr (Or.inr ⟨hb,cs,(h.block i hi hn).symm.trans hc⟩)))))))
theorem ArF.none (h:Keep (fun _=>False) w w'):Keep (ArF q w) w w':=h.mono fun _ h=>h.elim
theorem ArF.not (h:ArAt w q lk s) {k:Nat} {cs:Array Value} {t:TypeId} {f:Nat×Nat} (hk:Has w k (.cells cs t f)) (h1:t≠5) (h2:t≠209) (h3:t≠214) (h4:t≠220) (h5:t≠260) (h6:t≠153) (h7:t≠143):¬ ArF q w k:=by
 rintro (e | e | e)
 ·subst e
  have:=hk.inj h.cells
  simp only [Obj.cells.injEq] at this
  exact h7 this.2.1
 ·exact h.set.typ hk h2 h4 h5 e
 ·exact PFoot.not hk h1 h.pair h6 h2 h3 e
theorem ArF.low {n:Nat} (h:ArFrom q n) {k:Nat} (hk:ArF q w k):n≤k:=by
 rcases hk with e | e | e | e | e | e | e | ⟨hb,_⟩
 ·have:=h.a;omega
 ·rcases e with e | e | e
  ·have:=h.m;have e:k=q.pb.m:=e;omega
  ·obtain ⟨br,hb,rfl⟩:=List.mem_map.1 e;exact (h.disks br hb).1
  ·obtain ⟨br,hb,rfl⟩:=List.mem_map.1 e;exact (h.disks br hb).2
 ·have:=h.p;omega
 ·have:=h.mp;omega
 ·have:=h.m;omega
 ·have:=h.ra;omega
 ·have:=h.rb;omega
 ·have:=h.base;omega
theorem ArAt.keepT (h:ArAt w q lk s) {x:Nat} {cs:Array Value} {t:TypeId} {f:Nat×Nat} (hx:Has w x (.cells cs t f)) (h1:t≠5) (h2:t≠209) (h3:t≠214) (h4:t≠220) (h5:t≠260) (h6:t≠153) (h7:t≠143)
  (h8:t≠244) (h9:t≠229) (h10:t≠3) (h11:t≠111) (k:Keep (fun k=>k=x) w w'):ArAt w' q lk s:=by
 have ne:∀ {i:Nat} {cs':Array Value} {t':TypeId} {f':Nat×Nat},Has w i (.cells cs' t' f')→t≠t'→¬ i=x:=by
  intro i cs' t' f' hi ht e
  subst e
  have:=hx.inj hi
  simp only [Obj.cells.injEq] at this
  exact ht this.2.1
 refine ⟨k.has h.cells (ne h.cells h7),h.set.keep k fun i hi e=>h.set.typ hx h2 h4 h5 (e ▸ hi),h.disks.keep k (fun b hb=>?_),h.pair.keepS k (fun i hi e=>PFoot.not hx h1 h.pair h6 h2 h3 (e ▸ hi)) (ne h.pair.cache.1 h8),k.has (show Has w _ _ from h.desk) (ne h.desk h9),h.marks.keep k (fun b hb=>?_)⟩
 ·obtain ⟨_,cur,hh⟩:=own_has h.disks b 0 hb
  exact ne hh h11
 ·obtain ⟨_,cur,hh⟩:=own_has h.marks b 0 hb
  exact ne hh h10
theorem alone_none (f:Bool) (ha:upA s (!f)=false∨(livesA s (!f)=true∧s.split=false)) (w1:World) (R1:Value→World→Prop) (h1:ArAt w1 q 1 s) (hh:∀ w2,ArAt w2 q 1 s→Keep (ArF q w1) w1 w2→R1 (.int .i64 0) w2):zB Tryz.prog 79 #[.pointer (some ⟨q.a,0,none⟩),.int .i64 (sideN f)] w1 R1 :=
 ar_alone0 h1 f ha (hh w1 h1 (Keep.refl _ _))
structure DoSt (w0 w:World) (q:AB) (s:AS) (b b1:Nat) (c:Cmd):Prop where
 ar:ArAt w q 1 s
 cmd:Has w b (.cells (cmdC c) 41 (0,0))
 rep:Has w b1 (.cells (repC 0 0 none 0 0) 34 (0,0))
 keep:Keep (ArF q w0) w0 w
 hb:w0.heap.size≤b
 hb1:w0.heap.size≤b1
theorem DoSt.keep0 {w0:World} {b b1:Nat} {c:Cmd} (h:DoSt w0 w q s b b1 c) (k:Keep (fun _=>False) w w'):DoSt w0 w' q s b b1 c :=
 ⟨h.ar.keep0 k,k.has h.cmd (by simp),k.has h.rep (by simp),ArF.trans h.keep (ArF.none k),h.hb,h.hb1⟩
theorem DoSt.to {w0:World} {b b1:Nat} {c:Cmd} {s':AS} (h:DoSt w0 w q s b b1 c) (ha:ArAt w' q 1 s') (k:Keep (ArF q w) w w'):DoSt w0 w' q s' b b1 c :=
 ⟨ha,k.has h.cmd (ArF.not h.ar h.cmd (by decide) (by decide) (by decide) (by decide) (by decide) (by decide) (by decide)),k.has h.rep (ArF.not h.ar h.rep (by decide) (by decide) (by decide) (by decide) (by decide) (by decide) (by decide)),ArF.trans h.keep k,h.hb,h.hb1⟩
theorem DoSt.tmp {w0:World} {b b1:Nat} {c:Cmd} (h:DoSt w0 w q s b b1 c) {x:Nat} {cs:Array Value} {t:TypeId} {f:Nat×Nat} (hx:Has w x (.cells cs t f)) (ht:t=37∨t=34) (hx0:w0.heap.size≤x) (hx1:x≠b1) (k:Keep (fun k=>k=x) w w'):DoSt w0 w' q s b b1 c:=by
 refine ⟨?_,k.has h.cmd fun e=>?_,k.has h.rep (fun e=>hx1 e.symm),h.keep.trans' k fun i hi e=>by omega,h.hb,h.hb1⟩
 ·rcases ht with rfl | rfl
  ·exact h.ar.keepT hx (by decide) (by decide) (by decide) (by decide) (by decide) (by decide) (by decide) (by decide) (by decide) (by decide) (by decide) k
  ·exact h.ar.keepT hx (by decide) (by decide) (by decide) (by decide) (by decide) (by decide) (by decide) (by decide) (by decide) (by decide) (by decide) k
 ·subst e
  have:=hx.inj h.cmd
  simp only [Obj.cells.injEq] at this
  rcases ht with rfl | rfl
  ·exact absurd this.2.1 (by decide)
  ·exact absurd this.2.1 (by decide)
end plain
section calls
variable {w w0:World} {q:AB} {s:AS} {b b1:Nat} {c:Cmd} {R:Value→World→Prop}
theorem doEnd (h:DoSt w0 w q s b b1 c) {cs:Array Value} (hs:cs.size=3) (h1:∀ v∈cs.toList,oneV v=true) (hK:∀ w',ArAt w' q 0 s→Keep (ArF q w0) w0 w'→Keep (fun k=>k=b1∨k=q.a) w w'→R (.agg cs) w') :
  StA 3 b1 0 cs w fun w=>CallDV Tryz.prog 76 #[.pointer (some ⟨q.a,0,none⟩)] w fun w=>LdA 3 b1 0 (At w) fun cs36=>R (.agg cs36) w:=by
 have k1:Keep (fun k=>k=b1) w (w.upd b1 (.cells cs 34 (0,0))):=Keep.one _ _ _
 have ha:=h.ar.keepT h.rep (by decide) (by decide) (by decide) (by decide) (by decide) (by decide) (by decide) (by decide) (by decide) (by decide) (by decide) k1
 have hr:=h.rep.upd_same (.cells cs 34 (0,0))
 refine StA_all h.rep hs rfl h1 ?_
 have kk:Keep (ArF q w0) w0 (w.upd b1 (.cells cs 34 (0,0))):=h.keep.trans' k1 fun i hi e=>by have:=h.hb1;omega
 generalize w.upd b1 _=w1 at *
 refine ar_unlock ha fun w2 h2 k2=>?_
 have hne:¬ b1=q.a:=fun e=>by
  subst e
  have:=hr.inj ha.cells
  simp only [Obj.cells.injEq] at this
  exact absurd this.2.1 (by decide)
 refine LdA_all (k2.has hr hne) hs (hK w2 h2 (kk.trans' k2 fun i hi e=>Or.inl e) ?_)
 exact (k1.mono fun i e=>Or.inl e).trans (k2.mono fun i e=>Or.inr e)
theorem ar_check (h:ArAt w q 1 s) (sense:Int) (hK:∀ w',Keep (fun _=>False) w w'→R (.agg (if s.ps.pw.on=true then repC 2 sense none 0 0 else repC 0 0 none 0 0)) w'):zB Tryz.prog 77 #[.pointer (some ⟨q.a,0,none⟩),.int .i64 sense] w R:=by
 apply C_array_Array_check
 unfold F_array_Array_check
 refine alc_fresh fun w1 hb1 k1 z1=>?_
 rw [zc_rep] at hb1
 refine ar_on (h.keep0 k1) (ma_On (h.keep0 k1).pair.main (OpB_bool.2 ?_))
 refine Cb_of (fun hn=>?_) (fun hn=>?_)
 ·have hn:s.ps.pw.on=false:=by simpa using hn
  rw [if_neg (by rw [hn];decide)] at hK
  refine DoQ_of (fun _=>bld_rep0 _) (OpA_agg.2 ⟨rfl,?_⟩)
  exact StA_all hb1 rfl rfl (one_repC _ _ _ _ _) (LdA_all (hb1.upd_same _) rfl (Ret_nil.2 (hK _ (k1.upd (fun hi=>absurd hi (by omega)) _))))
 ·have hn:s.ps.pw.on=true:=by simpa using hn
  rw [if_pos hn] at hK
  refine DoQ_of (fun _=>bld_rep2 2 sense _) (OpA_agg.2 ⟨rfl,?_⟩)
  exact StA_all hb1 rfl rfl (one_repC _ _ _ _ _) (LdA_all (hb1.upd_same _) rfl (Ret_nil.2 (hK _ (k1.upd (fun hi=>absurd hi (by omega)) _))))
theorem ar_DoOpen (h:ArAt w q 0 s) (f:Bool) {init:Int} (hk:c.k=2∨c.k=3∨c.k=4) (hr:readyA s f=true) {s':AS} (hd:s'.d=s.d)
  (ha:∀ (w1:World) (R1:Value→World→Prop),ArAt w1 q 1 s→(∀ w2,ArAt w2 q 1 s'→Keep (ArF q w1) w1 w2→R1 (.int .i64 0) w2)→zB Tryz.prog 79 #[.pointer (some ⟨q.a,0,none⟩),.int .i64 (sideN f)] w1 R1)
  (hK1:(gateD s.d ((q.g.d-2)*q.g.c*q.g.s) init c).2=true→∀ w',ArAt w' q 0 s'→Keep (ArF q w) w w'→R (.agg (repC (gateD s.d ((q.g.d-2)*q.g.c*q.g.s) init c).1.1 (gateD s.d ((q.g.d-2)*q.g.c*q.g.s) init c).1.2 none 0 0)) w')
  (hK2:(gateD s.d ((q.g.d-2)*q.g.c*q.g.s) init c).2=false→∀ b b1 w',DoSt w w' q s' b b1 c→DoBody q.a (sideN f) b b1 w' R) :
  zB Tryz.prog 16 #[.pointer (some ⟨q.a,0,none⟩),.int .i64 (sideN f),.int .i64 init,.agg (cmdC c)] w R:=by
 apply C_array_Array_Do
 unfold F_array_Array_Do
 have hcap:2≤(q.g.d-2)*q.g.c*q.g.s∧(q.g.d-2)*q.g.c*q.g.s≤15360:=h.set.geo.cap
 have hon:s.ps.pw.on=true:=by unfold readyA at hr;cases he:s.ps.pw.on with
  | true=>rfl
  | false=>rw [he] at hr;cases hr
 refine alc_fresh fun w1 hb1 k1 z1=>?_
 refine alc_fresh fun w2 hb2 k2 z2=>?_
 rw [zc_rep] at hb2
 have hb1':=k2.has hb1 (by simp)
 refine ar_lock (h.keep0 (k1.trans k2)) fun w3 h3 k3=>?_
 have tne:∀ {i:Nat} {cs:Array Value} {t:TypeId},Has w2 i (.cells cs t (0,0))→t≠143→¬ i=q.a:=by
  intro i cs t hi ht e
  subst e
  have:=hi.inj (h.keep0 (k1.trans k2)).cells
  simp only [Obj.cells.injEq] at this
  exact ht this.2.1
 have hS:DoSt w w3 q s w.heap.size w1.heap.size c:=⟨h3,k3.has hb1' (tne hb1' (by decide)),k3.has hb2 (tne hb2 (by decide)),(ArF.none (k1.trans k2)).trans' k3 fun i hi e=>Or.inl e,Nat.le_refl _,by omega⟩
 clear hb1 hb2 k1 k2 k3 hb1' h3 tne
 refine ar_on hS.ar (ma_On hS.ar.pair.main (OpB_bool.2 ?_))
 rw [hon]
 refine (Cb_false (p:=_)).2 ⟨rfl,rfl,?_⟩
 have e:(cond (decide (sideN f<0)) true (decide (sideN f>1)))=false:=by cases f <;> rfl
 rw [e]
 refine (Cb_false (p:=_)).2 ?_
 refine ar_ready hS.ar f fun w4 k4=>OpB_bool.2 ?_
 rw [hr]
 refine (Cb_false (p:=_)).2 ?_
 have hS:=hS.keep0 k4
 clear k4
 refine ha w4 _ hS.ar fun w4' hA4 k4'=>zA.2 ((Cb_false (p:=_)).2 ?_)
 have hS:=hS.to hA4 k4'
 clear hA4 k4' hr hon
 rw [← hd] at hK1 hK2
 clear h hd ha
 generalize w4'=w4 at *
 revert hS hK1 hK2 hcap
 generalize s'=s
 intro hK1 hK2 hcap hS
 generalize hG:gateD s.d ((q.g.d-2)*q.g.c*q.g.s) init c=G at hK1 hK2
 refine ⟨fun st w'=>st.1.2=0∧st.2.1=G.2∧Has w' st.1.1 (.cells (repC G.1.1 G.1.2 none 0 0) 34 (0,0))∧DoSt w w' q s w.heap.size w1.heap.size c∧w1.heap.size≠st.1.1,?_,?_⟩
 ·intro d
  have hS:=hS.keep0 (Keep.drew _ w4 d)
  generalize w4.dr d=w5 at *
  have hlt:=hS.rep.lt
  have kz:∀ {w7:World},Keep (fun _=>False) w5 w7→w1.heap.size≠w7.heap.size:=fun k=>by have:=k.size;omega
  refine ⟨fun w'=>Has w' q.a (.cells (arC q 1 s) 143 (0,0))∧Has w' w.heap.size (.cells (cmdC c) 41 (0,0)),⟨hS.ar.cells,hS.cmd⟩,?_⟩
  refine LdV_of (v:=.pointer (some ⟨q.dk,0,none⟩)) (fun w' hw=>⟨_,_,_,hw.1,rfl⟩) (OpN_some.2 ?_)
  refine LdA_of (cs:=cmdC c) rfl (fun w' hw=>⟨_,_,_,hw.2,Nat.le_refl 7,rfl⟩) ?_
  have hold:∀ {w7:World},Keep (fun _=>False) w5 w7→Has w7 q.a (.cells (arC q 1 s) 143 (0,0))∧Has w7 w.heap.size (.cells (cmdC c) 41 (0,0)):=fun k=>⟨k.has hS.ar.cells (by simp),k.has hS.cmd (by simp)⟩
  have fin:∀ {w8 w9:World} {x:Nat},DoSt w w8 q s w.heap.size w1.heap.size c→Has w8 x (.cells (repC 0 0 none 0 0) 34 (0,0))→w.heap.size≤x→w1.heap.size≠x →
    StA 3 x 0 (repC G.1.1 G.1.2 none 0 0) w8 fun w6=>Hld (Has w6 q.a (.cells (arC q 1 s) 143 (0,0))∧Has w6 w.heap.size (.cells (cmdC c) 41 (0,0))) (x=x∧(0:Nat)=0∧G.2=G.2∧Has w6 x (.cells (repC G.1.1 G.1.2 none 0 0) 34 (0,0))∧DoSt w w6 q s w.heap.size w1.heap.size c∧w1.heap.size≠x):=fun h8 hx hx0 hx1=>by
   have h9:=h8.tmp hx (Or.inr rfl) hx0 (fun e=>hx1 e.symm) (Keep.one _ _ (.cells (repC G.1.1 G.1.2 none 0 0) 34 (0,0)))
   exact StA_all hx rfl rfl (one_repC _ _ _ _ _) ⟨⟨h9.ar.cells,h9.cmd⟩,rfl,rfl,rfl,hx.upd_same _,h9,hx1⟩
  refine ⟨?_,?_⟩
  ·refine ar_capacity hS.ar fun w6 k6=>zA.2 ⟨hold k6,?_,?_⟩
   ·refine md_Gate (hS.keep0 k6).ar.desk hk (by omega) (by omega) fun w7 k7=>T2_mk.2 (OpA_agg.2 ⟨rfl,OpB_bool.2 ⟨hold (k6.trans k7),?_⟩⟩)
    rw [hG]
    refine alc_fresh fun w8 hb8 k8 z8=>?_
    rw [zc_rep] at hb8
    have k58:=(k6.trans k7).trans k8
    refine ⟨hold k58,?_⟩
    have:=fin (w9:=w8) (hS.keep0 k58) hb8 (Nat.le_trans hS.keep.size (k6.trans k7).size) (kz (k6.trans k7))
    obtain ⟨s1,s2,s3,s4,s6⟩:=this
    exact ⟨s1,s2,s3,s4,s6.2⟩
   ·refine alc_fresh fun w8 hb8 k8 z8=>?_
    rw [zc_rep] at hb8
    refine ⟨hold (k6.trans k8),?_⟩
    refine md_Gate (hS.keep0 (k6.trans k8)).ar.desk hk (by omega) (by omega) fun w7 k7=>T2_mk.2 (OpA_agg.2 ⟨rfl,OpB_bool.2 ⟨hold ((k6.trans k8).trans k7),?_⟩⟩)
    rw [hG]
    have:=fin (w9:=w7) (hS.keep0 ((k6.trans k8).trans k7)) (k7.has hb8 (by simp)) (Nat.le_trans hS.keep.size k6.size) (kz k6)
    obtain ⟨s1,s2,s3,s4,s6⟩:=this
    exact ⟨s1,s2,s3,s4,s6.2⟩
  ·refine alc_fresh fun w8 hb8 k8 z8=>?_
   rw [zc_rep] at hb8
   refine ⟨hold k8,?_⟩
   refine ar_capacity (hS.keep0 k8).ar fun w6 k6=>zA.2 ⟨hold (k8.trans k6),?_⟩
   refine md_Gate (hS.keep0 (k8.trans k6)).ar.desk hk (by omega) (by omega) fun w7 k7=>T2_mk.2 (OpA_agg.2 ⟨rfl,OpB_bool.2 ⟨hold ((k8.trans k6).trans k7),?_⟩⟩)
   rw [hG]
   have:=fin (w9:=w7) (hS.keep0 ((k8.trans k6).trans k7)) ((k6.trans k7).has hb8 (by simp)) hS.keep.size (kz (Keep.refl _ _))
   obtain ⟨s1,s2,s3,s4,s6⟩:=this
   exact ⟨s1,s2,s3,s4,s6.2⟩
 rintro _ ⟨⟨x,o⟩,g,u⟩ w5 ⟨ho,hg,hx,hS5,hne⟩
 simp only at ho hg hx hne ⊢
 subst ho
 subst hg
 refine Cb_of (fun ht=>?_) (fun hf=>hK2 hf _ _ w5 hS5)
 refine LdA_all hx rfl ?_
 exact doEnd hS5 rfl (one_repC _ _ _ _ _) fun w6 h6 k6 _=>hK1 ht w6 h6 k6
end calls
structure MB where
 m:Nat
 a:Nat
 b:Nat
 base:Nat
 sz:Int
structure MS where
 pw:Pow
 xa:List Int
 xb:List Int
structure MemsAt (w:World) (q:MB) (s:MS):Prop where
 main:MaAt w q.m s.pw
 rams:∃ pa la ca pb lb cb,RaAt w q.base q.m q.a q.sz pa la ca s.xa∧RaAt w q.base q.m q.b q.sz pb lb cb s.xb∧∀ k,pa=some ⟨k,0,none⟩→¬ pb=some ⟨k,0,none⟩
 ne:q.a≠q.b
 fit:(s.xa.length:Int)≤q.sz∧(s.xb.length:Int)≤q.sz
 form:37≤q.sz∧q.sz≤65536
 low:q.base≤w.heap.size
def MFoot (q:MB) (w:World) (k:Nat):Prop:=k=q.m∨k=q.a∨k=q.b∨(q.base≤k∧∃ cs,Has w k (.cells cs 5 (0,0)))
theorem MFoot.trans {q:MB} {w w1 w2:World} (h:Keep (MFoot q w) w w1) (k:Keep (MFoot q w1) w1 w2):Keep (MFoot q w) w w2 :=
 h.trans' k fun i hi hf=>Classical.byContradiction fun hn=>by
  rcases hf with e | e | e | ⟨hb,cs,hc⟩
  ·exact hn (Or.inl e)
  ·exact hn (Or.inr (Or.inl e))
  ·exact hn (Or.inr (Or.inr (Or.inl e)))
  ·exact hn (Or.inr (Or.inr (Or.inr ⟨hb,cs,(h.block i hi hn).symm.trans hc⟩)))
theorem MFoot.none {q:MB} {w w':World} (h:Keep (fun _=>False) w w'):Keep (MFoot q w) w w':=h.mono fun _ h=>h.elim
theorem MFoot.not {q:MB} {s:MS} {w:World} {k:Nat} {cs:Array Value} {t:TypeId} {f:Nat×Nat} (hk:Has w k (.cells cs t f)) (hp:MemsAt w q s) (ht:t≠5) (h2:t≠209) (h3:t≠214):¬ MFoot q w k:=by
 have no:∀ {cs':Array Value} {t':TypeId} {f':Nat×Nat} {b:Nat},Has w b (.cells cs' t' f')→t≠t'→k≠b:=by
  intro cs' t' f' b hb ht' e
  subst e
  have:=hk.inj hb
  simp only [Obj.cells.injEq] at this
  exact ht' this.2.1
 obtain ⟨_,_,_,_,_,_,ha,hb,_⟩:=hp.rams
 rintro (e | e | e | ⟨_,cs',hc⟩)
 ·exact no (show Has w _ _ from hp.main) h2 e
 ·exact no ha.cells h3 e
 ·exact no hb.cells h3 e
 ·exact no hc ht rfl
theorem MFoot.has {q:MB} {s:MS} {w w':World} (h:Keep (MFoot q w) w w') {k:Nat} {cs:Array Value} {t:TypeId} {f:Nat×Nat} (hk:Has w k (.cells cs t f)) (hp:MemsAt w q s) (ht:t≠5) (h2:t≠209) (h3:t≠214):Has w' k (.cells cs t f) :=
 h.has hk (MFoot.not hk hp ht h2 h3)
theorem MFoot.slt {α:Type} {L:Lay α} {q:MB} {s:MS} {w w':World} (h:Keep (MFoot q w) w w') {t:TypeId} {p:Option Addr} {l c:Nat} {xs:List α} (ho:SlT L w t p l c xs) (hp:MemsAt w q s) (ht:t≠5) (h2:t≠209) (h3:t≠214):SlT L w' t p l c xs :=
 ho.keepB h fun k cur hk=>MFoot.not hk hp ht h2 h3
theorem MFoot.own {α:Type} {L:Lay α} {q:MB} {s:MS} {w w':World} (h:Keep (MFoot q w) w w') {b:Nat} {t:TypeId} {p:Option Addr} {l c:Nat} {xs:List α} (ho:OwnL L w b t p l c xs) (hp:MemsAt w q s) (ht:t≠5) (h2:t≠209) (h3:t≠214):OwnL L w' b t p l c xs:=by
 refine ho.keep h fun k hk=>?_
 rcases Own.cases ho with ⟨h0,_⟩ | ⟨b',cur,h0,_,hg,_⟩
 ·rw [h0] at hk;cases hk
 ·rw [h0] at hk;cases hk
  exact MFoot.not hg hp ht h2 h3
theorem MemsAt.keep {w w':World} {q:MB} {s:MS} (h:MemsAt w q s) (k:Keep (fun _=>False) w w'):MemsAt w' q s:=by
 obtain ⟨pa,la,ca,pb,lb,cb,ha,hb,hne⟩:=h.rams
 exact ⟨k.has h.main (by simp),⟨pa,la,ca,pb,lb,cb,⟨k.has ha.cells (by simp),ha.row.keep k (by simp)⟩,⟨k.has hb.cells (by simp),hb.row.keep k (by simp)⟩,hne⟩,h.ne,h.fit,h.form,Nat.le_trans h.low k.size⟩
theorem MemsAt.pow {w w':World} {q:MB} {s:MS} {S:Nat→Prop} {pw:Pow} (h:MemsAt w q s) (k:Keep S w w') (hS:∀ i,MFoot q w i→S i→i=q.m) (hm:MaAt w' q.m pw):MemsAt w' q ⟨pw,s.xa,s.xb⟩:=by
 obtain ⟨pa,la,ca,pb,lb,cb,ha,hb,hne⟩:=h.rams
 have no:∀ {cs':Array Value} {f':Nat×Nat} {t':TypeId} {b:Nat},Has w b (.cells cs' t' f')→t'≠209→b≠q.m:=by
  intro cs' f' t' b hb ht' e
  subst e
  have:=hb.inj (show Has w _ _ from h.main)
  simp only [Obj.cells.injEq] at this
  exact ht' this.2.1
 have rowF:∀ {p:Option Addr} {l c:Nat} {bs:List Int},OwnL byLay w q.base 5 p l c bs→∀ k,p=some ⟨k,0,none⟩→¬ S k:=by
  intro p l c bs ho k hk hs
  rcases Own.cases ho with ⟨h0,_⟩ | ⟨b',cur,h0,hb',hg,_⟩
  ·rw [h0] at hk;cases hk
  ·rw [h0] at hk;cases hk
   exact no hg (by decide) (hS _ (Or.inr (Or.inr (Or.inr ⟨hb',cur,hg⟩))) hs)
 exact ⟨hm,⟨pa,la,ca,pb,lb,cb,⟨k.has ha.cells fun hs=>no ha.cells (by decide) (hS _ (Or.inr (Or.inl rfl)) hs),ha.row.keep k (rowF ha.row)⟩,⟨k.has hb.cells fun hs=>no hb.cells (by decide) (hS _ (Or.inr (Or.inr (Or.inl rfl))) hs),hb.row.keep k (rowF hb.row)⟩,hne⟩,h.ne,h.fit,h.form,Nat.le_trans h.low k.size⟩
def appM (sz:Int) (x:Rec) (f:Bool) (s:MS):Int×MS:=match f with
 | false=>((appP s.pw sz s.xa x).1,⟨(appP s.pw sz s.xa x).2.1,(appP s.pw sz s.xa x).2.2,s.xb⟩)
 | true=>((appP s.pw sz s.xb x).1,⟨(appP s.pw sz s.xb x).2.1,s.xa,(appP s.pw sz s.xb x).2.2⟩)
def eachM (sz:Int) (x:Rec):List Bool→MS→Int×MS
 | [],s=>(0,s)
 | f::fs,s=>if (appM sz x f s).1≠0 then appM sz x f s else eachM sz x fs (appM sz x f s).2
def ramM (q:MB) (f:Bool):Nat:=cond f q.b q.a
def eachA (sz:Int) (fs:List Bool):List Rec→MS→Int×MS
 | [],s=>(0,s)
 | r::rs,s=>if (eachM sz r fs s).1≠0 then eachM sz r fs s else eachA sz fs rs (eachM sz r fs s).2
def badPut (x:PutS):Bool:=decide (x.plc.dk<0) || decide (32≤x.plc.dk) || decide (x.plc.at_<0) || decide (1024≤x.plc.at_)
def beginM (sz:Int) (v:Int) (xs:List PutS) (fs:List Bool) (s:MS):Int×MS :=
 if xs.any badPut=true then (2,s) else eachA sz fs (xs.map (recI v)++[recK 4 v]) s
theorem lenM {pw:Pow} {sz:Int} {bs:List Int} {x:Rec} (h:(bs.length:Int)≤sz):((appP pw sz bs x).2.2.length:Int)≤sz:=by
 have hp:(packB x).length=37:=rfl
 unfold appP
 split
 ·exact h
 ·split
  ·exact h
  ·rename_i h1 h2
   have h2:¬ (sz-(bs.length:Int)) / 37<1:=h2
   have:37≤sz-(bs.length:Int):=by omega
   split <;> simp <;> omega
section calls
variable {w:World} {q:MB} {s:MS} {R:Value→World→Prop}
theorem mem_app (h:MemsAt w q s) {x:Rec} {f:Bool} (hx:recGood x=true) (hK:∀ w',MemsAt w' q (appM q.sz x f s).2→Keep (MFoot q w) w w'→R (.int .i64 (appM q.sz x f s).1) w') :
  zB Tryz.prog 165 #[.pointer (some ⟨ramM q f,0,none⟩),.agg (recV x)] w R:=by
 obtain ⟨pa,la,ca,pb,lb,cb,ha,hb,hne⟩:=h.rams
 have inj:∀ {k:Nat} {cs cs':Array Value} {t t':TypeId} {f f':Nat×Nat},Has w k (.cells cs t f)→Has w k (.cells cs' t' f')→t=t':=by
  intro k cs cs' t t' f f' h1 h2
  have:=h1.inj h2
  simp only [Obj.cells.injEq] at this
  exact this.2.1
 have bne:∀ {p:Option Addr} {l c:Nat} {bs:List Int} {k:Nat} {cs:Array Value} {t:TypeId} {f:Nat×Nat},OwnL byLay w q.base 5 p l c bs→Has w k (.cells cs t f)→t≠5→¬ p=some ⟨k,0,none⟩:=by
  intro p l c bs k cs t f ho hk ht hp
  rcases Own.cases ho with ⟨h0,_⟩ | ⟨b',cur,h0,_,hg,_⟩
  ·rw [h0] at hp;cases hp
  ·rw [h0] at hp;cases hp;exact ht (inj hk hg)
 have rowF:∀ {p:Option Addr} {l c:Nat} {bs:List Int},OwnL byLay w q.base 5 p l c bs→∀ k,p=some ⟨k,0,none⟩→q.base≤k∧∃ cs,Has w k (.cells cs 5 (0,0)):=by
  intro p l c bs ho k hk
  rcases Own.cases ho with ⟨h0,_⟩ | ⟨b',cur,h0,hb',hg,_⟩
  ·rw [h0] at hk;cases hk
  ·rw [h0] at hk;cases hk;exact ⟨hb',cur,hg⟩
 have c1:∀ {r:Nat} {p:Option Addr} {l c:Nat} {bs:List Int},RaAt w q.base q.m r q.sz p l c bs→∀ {w':World},Keep (fun k=>k=q.m∨k=r∨p=some ⟨k,0,none⟩) w w'→(r=q.a∨r=q.b)→Keep (MFoot q w) w w':=by
  intro r p l c bs hr w' k hrr
  refine k.mono ?_
  rintro k' (e | e | e)
  ·exact Or.inl e
  ·rcases hrr with h1 | h1
   ·exact Or.inr (Or.inl (e.trans h1))
   ·exact Or.inr (Or.inr (Or.inl (e.trans h1)))
  ·exact Or.inr (Or.inr (Or.inr (rowF hr.row _ e)))
 have other:∀ {r r':Nat} {p p':Option Addr} {l l' c c':Nat} {bs bs':List Int},RaAt w q.base q.m r q.sz p l c bs→RaAt w q.base q.m r' q.sz p' l' c' bs'→r≠r'→(∀ k,p=some ⟨k,0,none⟩→¬ p'=some ⟨k,0,none⟩) →
   ∀ {w':World},Keep (fun k=>k=q.m∨k=r∨p=some ⟨k,0,none⟩) w w'→RaAt w' q.base q.m r' q.sz p' l' c' bs':=by
  intro r r' p p' l l' c c' bs bs' hr hr' hn hpp w' k
  refine ⟨k.has hr'.cells ?_,hr'.row.keep k ?_⟩
  ·rintro (e | e | e)
   ·subst e;exact absurd (inj hr'.cells (show Has w _ _ from h.main)) (by decide)
   ·exact hn e.symm
   ·exact bne hr.row hr'.cells (by decide) e
  ·rintro k' hk (e | e | e)
   ·subst e;exact bne hr'.row (show Has w _ _ from h.main) (by decide) hk
   ·subst e;exact bne hr'.row hr.cells (by decide) hk
   ·exact hpp _ e hk
 cases f
 ·show zB Tryz.prog 165 #[.pointer (some ⟨q.a,0,none⟩),.agg (recV x)] w R
  refine ra_Append ha h.main hx h.form.1 h.form.2 (by rw [ha.row.length];exact h.fit.1) h.low fun p' l' c' w' hr hm hp k=>?_
  refine hK w' ⟨hm,⟨p',l',c',pb,lb,cb,hr,other ha hb h.ne hne k,?_⟩,h.ne,⟨lenM h.fit.1,h.fit.2⟩,h.form,Nat.le_trans h.low k.size⟩ (c1 ha k (Or.inl rfl))
  intro k' hk' hpb
  rcases hp with e | ⟨k2,h2,e⟩
  ·exact hne k' (e ▸ hk') hpb
  ·rw [e] at hk'
   cases hk'
   have:=(hb.row.lt hpb).2
   omega
 ·show zB Tryz.prog 165 #[.pointer (some ⟨q.b,0,none⟩),.agg (recV x)] w R
  refine ra_Append hb h.main hx h.form.1 h.form.2 (by rw [hb.row.length];exact h.fit.2) h.low fun p' l' c' w' hr hm hp k=>?_
  refine hK w' ⟨hm,⟨pa,la,ca,p',l',c',other hb ha h.ne.symm (fun k h1 h2=>hne k h2 h1) k,hr,?_⟩,h.ne,⟨h.fit.1,lenM h.fit.2⟩,h.form,Nat.le_trans h.low k.size⟩ (c1 hb k (Or.inr rfl))
  intro k' hpa hk'
  rcases hp with e | ⟨k2,h2,e⟩
  ·exact hne k' hpa (e ▸ hk')
  ·rw [e] at hk'
   cases hk'
   have:=(ha.row.lt hpa).2
   omega
theorem i_eachM {x:Rec} {fs:List Bool} {rp:Option Addr} {rl rc:Nat} (h:MemsAt w q s) (hx:recGood x=true) (hr:SlT dLay w 104 rp rl rc (fs.map (ramM q)))
  (hK:∀ w',MemsAt w' q (eachM q.sz x fs s).2→Keep (MFoot q w) w w'→R (.int .i64 (eachM q.sz x fs s).1) w') :
  zB Tryz.prog 200 #[.slice rp rl rc,.agg (recV x)] w R:=by
 apply C_intent_each
 unfold F_intent_each
 refine alc_fresh fun w1 hb1 k1 z1=>?_
 have hlen:rl=fs.length:=by have:=hr.len;rw [List.length_map] at this;exact this
 have hcap:=hr.cap
 have hml:rl≤maxLen:=Nat.le_trans hcap.1 hcap.2
 have hml':rl≤9223372036854775807:=by simpa [maxLen] using hml
 refine LoopC_of (σ:=Int×Unit) (fun st w'=>∃ (k:Nat) (s':MS),st.1=(k:Int)∧k≤rl∧MemsAt w' q s'∧eachM q.sz x (fs.drop k) s'=eachM q.sz x fs s∧Keep (MFoot q w) w w'∧SlT dLay w' 104 rp rl rc (fs.map (ramM q))∧Has w' w.heap.size (.cells (recV x) 246 (0,0)))
  (fun st _=>((rl:Int)-st.1).toNat) ⟨0,s,rfl,by omega,h.keep k1,rfl,MFoot.none k1,hr.keep k1 (by simp),hb1⟩ ?_
 rintro _ ⟨i,u⟩ w3 ⟨k,s',hi,hk,h3,he,k3,o3,hb3⟩
 simp only at hi ⊢
 subst hi
 refine Cb_of (fun hc=>?_) (fun hc=>?_)
 ·have hc:k<rl:=by
   have:(k:Int)<(rl:Int):=by simpa using hc
   omega
  obtain ⟨g,hg⟩:∃ g,fs[k]? = some g:=⟨_,List.getElem?_eq_getElem (by omega)⟩
  refine o3.ld0 (i:=(k:Int)) (n:=1) (x:=ramM q g) (v:=.pointer (some ⟨ramM q g,0,none⟩)) rfl (by omega) (by simp [hg]) rfl ?_
  refine OpN_some.2 ?_
  refine LdA_all hb3 rfl ?_
  refine mem_app h3 (f:=g) hx fun w4 h4 k4=>?_
  refine zA.2 ?_
  have ed:fs.drop k=g::fs.drop (k+1):=by
   rw [List.drop_eq_getElem_cons (by omega)]
   congr 1
   have:=List.getElem?_eq_getElem (l:=fs) (i:=k) (by omega)
   rw [hg] at this
   exact (Option.some.inj this).symm
  rw [ed] at he
  have hst:eachM q.sz x (g::fs.drop (k+1)) s'=if (appM q.sz x g s').1≠0 then appM q.sz x g s' else eachM q.sz x (fs.drop (k+1)) (appM q.sz x g s').2:=rfl
  rw [hst] at he
  have k34:=MFoot.trans k3 k4
  refine Cb_of (fun hz=>?_) (fun hz=>?_)
  ·have hz:(appM q.sz x g s').1≠0:=by simpa using hz
   rw [if_pos hz] at he
   rw [← he] at hK
   exact Ret_nil.2 (hK w4 h4 k34)
  ·have hz:(appM q.sz x g s').1=0:=by simpa using hz
   rw [if_neg (by simp [hz])] at he
   have ek:IntKind.wrap .i64 ((k:Int)+1)=((k+1:Nat):Int):=by rw [wrapI (by omega) (by omega)];omega
   exact ⟨_,by show ((rl:Int)-IntKind.wrap .i64 ((k:Int)+1)).toNat<((rl:Int)-(k:Int)).toNat;rw [ek];omega,⟨k+1,_,ek,by omega,h4,he,k34,MFoot.slt k4 o3 h3 (by decide) (by decide) (by decide),MFoot.has k4 hb3 h3 (by decide) (by decide) (by decide)⟩,rfl⟩
 ·have hc:k=rl:=by
   have:¬ ((k:Int)<(rl:Int)):=by simpa using hc
   omega
  subst hc
  have:fs.drop k=[]:=List.drop_of_length_le (by omega)
  rw [this] at he
  have he:(0,s')=eachM q.sz x fs s:=he
  rw [← he] at hK
  exact Ret_nil.2 (hK w3 h3 k3)
theorem eachA_step {sz:Int} {fs:List Bool} {r:Rec} {rs:List Rec} {s:MS}:eachA sz fs (r::rs) s=if (eachM sz r fs s).1≠0 then eachM sz r fs s else eachA sz fs rs (eachM sz r fs s).2:=rfl
theorem recI_good {v:Int} {x:PutS} (h:badPut x=false):recGood (recI v x)=true:=by
 unfold badPut at h
 simp only [Bool.or_eq_false_iff,decide_eq_false_iff_not] at h
 show (decide (1≤(3:Int)) && decide ((3:Int)≤6) && decide (0≤x.plc.dk*1024+x.plc.at_) && decide (x.plc.dk*1024+x.plc.at_≤2147483647))=true
 rw [decide_eq_true (show 0≤x.plc.dk*1024+x.plc.at_ by omega),decide_eq_true (show x.plc.dk*1024+x.plc.at_≤2147483647 by omega)]
 rfl
theorem i_BeginM {v:Int} {xs:List PutS} {fs:List Bool} {rp pp:Option Addr} {rl rc pl pc:Nat} (h:MemsAt w q s) (hr:SlT dLay w 104 rp rl rc (fs.map (ramM q))) (hrl:rl≤1000000) (hps:SlT puLay w 88 pp pl pc xs)
  (hK:∀ w',MemsAt w' q (beginM q.sz v xs fs s).2→Keep (MFoot q w) w w'→R (.int .i64 (beginM q.sz v xs fs s).1) w') :
  zB Tryz.prog 131 #[.slice rp rl rc,.int .u64 v,.slice pp pl pc] w R:=by
 apply C_intent_Begin
 unfold F_intent_Begin
 have hlen:=hps.len
 have hcap:=hps.cap
 have hml:pl≤9223372036854775807:=by have:=Nat.le_trans hcap.1 hcap.2;simpa [maxLen] using this
 refine i_missing hr.sl hrl (OpB_bool.2 ((Cb_false (p:=_)).2 ?_))
 refine LoopC_of (σ:=Int×Unit) (fun st w'=>∃ i:Nat,st.1=(i:Int)∧i≤pl∧Keep (fun _=>False) w w'∧(xs.take i).any badPut=false) (fun st _=>((pl:Int)-st.1).toNat) ⟨0,rfl,by omega,Keep.refl _ _,rfl⟩ ?_
 rintro _ ⟨i,u⟩ w1 ⟨i',hi,hil,k1,hno⟩
 simp only at hi ⊢
 subst hi
 refine Cb_of (fun hc=>?_) (fun hc=>?_)
 ·have hc:i'<pl:=by
   have:(i':Int)<(pl:Int):=by simpa using hc
   omega
  have ek:IntKind.wrap .i64 ((i':Int)+1)=((i'+1:Nat):Int):=by rw [wrapI (by omega) (by omega)];omega
  obtain ⟨x,hx⟩:∃ x,xs[i']? = some x:=⟨_,List.getElem?_eq_getElem (by omega)⟩
  refine (hps.keep k1 (by simp)).ldA (i:=(i':Int)) (n:=19) (x:=x) rfl (by omega) (by rw [Int.toNat_natCast];exact hx) ?_
  rw [pu_row]
  refine copy_of zc_pu rfl (one_putSL x) fun w2 hb2 k2 z2=>?_
  have bad:badPut x=true→∀ w',Keep (fun _=>False) w w'→R (.int .i64 2) w':=fun hb w' k'=>by
   have:xs.any badPut=true:=List.any_eq_true.2 ⟨x,List.mem_of_getElem? hx,hb⟩
   unfold beginM at hK
   rw [if_pos this] at hK
   exact hK w' (h.keep k') (MFoot.none k')
  have k12:=k1.trans k2
  refine LdV_has (v:=.int .i64 x.plc.dk) hb2 rfl (zA.2 ?_)
  refine Cb_of (fun c1=>Ret_nil.2 (bad (by unfold badPut;rw [c1];rfl) _ k12)) (fun c1=>?_)
  refine LdV_has (v:=.int .i64 x.plc.dk) hb2 rfl (zA.2 ?_)
  refine Cb_of (fun c2=>Ret_nil.2 (bad (by have c2:decide (32≤x.plc.dk)=true:=c2;unfold badPut;rw [c1,c2];rfl) _ k12)) (fun c2=>?_)
  refine LdV_has (v:=.int .i64 x.plc.at_) hb2 rfl (zA.2 ?_)
  refine Cb_of (fun c3=>Ret_nil.2 (bad (by have c2:decide (32≤x.plc.dk)=false:=c2;unfold badPut;rw [c1,c2,c3];rfl) _ k12)) (fun c3=>?_)
  refine LdV_has (v:=.int .i64 x.plc.at_) hb2 rfl (zA.2 ?_)
  refine Cb_of (fun c4=>Ret_nil.2 (bad (by have c2:decide (32≤x.plc.dk)=false:=c2;have c4:decide (1024≤x.plc.at_)=true:=c4;unfold badPut;rw [c1,c2,c3,c4];rfl) _ k12)) (fun c4=>?_)
  have hgood:badPut x=false:=by
   have c2:decide (32≤x.plc.dk)=false:=c2
   have c4:decide (1024≤x.plc.at_)=false:=c4
   unfold badPut;rw [c1,c2,c3,c4];rfl
  exact ⟨_,by show ((pl:Int)-IntKind.wrap .i64 ((i':Int)+1)).toNat<((pl:Int)-(i':Int)).toNat;rw [ek];omega,⟨i'+1,ek,by omega,k12,by rw [List.take_add_one,hx,List.any_append,hno];simp [hgood]⟩,rfl⟩
 ·have hc:i'=pl:=by
   have:¬ (i':Int)<(pl:Int):=by simpa using hc
   omega
  subst hc
  rw [List.take_of_length_le (by omega)] at hno
  unfold beginM at hK
  rw [if_neg (by rw [hno];decide)] at hK
  refine LoopC_of (σ:=Int×Unit) (fun st w'=>∃ (i:Nat) (s':MS),st.1=(i:Int)∧i≤i'∧MemsAt w' q s'∧eachA q.sz fs ((xs.drop i).map (recI v)++[recK 4 v]) s'=eachA q.sz fs (xs.map (recI v)++[recK 4 v]) s∧Keep (MFoot q w) w w')
   (fun st _=>((i':Int)-st.1).toNat) ⟨0,s,rfl,by omega,h.keep k1,by rw [List.drop_zero],MFoot.none k1⟩ ?_
  rintro _ ⟨j,u⟩ w2 ⟨j',s2,hj,hjl,h2,he,k2⟩
  simp only at hj ⊢
  subst hj
  have hps2:=MFoot.slt k2 hps h (by decide) (by decide) (by decide)
  have hr2:=MFoot.slt k2 hr h (by decide) (by decide) (by decide)
  refine Cb_of (fun hc=>?_) (fun hc=>?_)
  ·have hc:j'<i':=by
    have:(j':Int)<(i':Int):=by simpa using hc
    omega
   have ek:IntKind.wrap .i64 ((j':Int)+1)=((j'+1:Nat):Int):=by rw [wrapI (by omega) (by omega)];omega
   obtain ⟨x,hx⟩:∃ x,xs[j']? = some x:=⟨_,List.getElem?_eq_getElem (by omega)⟩
   have hgood:badPut x=false:=by
    cases hb:badPut x
    ·rfl
    ·have:=List.any_eq_true.2 ⟨x,List.mem_of_getElem? hx,hb⟩
     rw [hno] at this;cases this
   have hrange:=hgood
   unfold badPut at hrange
   simp only [Bool.or_eq_false_iff,decide_eq_false_iff_not] at hrange
   refine hps2.ldA (i:=(j':Int)) (n:=19) (x:=x) rfl (by omega) (by rw [Int.toNat_natCast];exact hx) ?_
   rw [pu_row]
   refine copy_of zc_pu rfl (one_putSL x) fun w3 hb3 k3 z3=>?_
   refine LdV_has (v:=.int .i64 x.plc.dk) hb3 rfl (zA.2 ?_)
   refine LdV_has (v:=.int .i64 x.plc.at_) hb3 rfl (zA.2 ?_)
   refine LdA_has (cs:=secV x.cel.data) hb3 (by show 2+16≤19;decide) (pu_dat x) ?_
   rw [wrapI (x:=x.plc.dk*1024) (by omega) (by omega),wrapI (x:=x.plc.dk*1024+x.plc.at_) (by omega) (by omega)]
   refine DoQ_of (v:=.agg (recV (recI v x))) (fun _=>bld_rc 3 v _ _ _) (OpA_agg.2 ⟨rfl,?_⟩)
   refine i_eachM (h2.keep k3) (recI_good hgood) (hr2.keep k3 (by simp)) fun w4 h4 k4=>zA.2 ?_
   have ed:xs.drop j'=x::xs.drop (j'+1):=by
    rw [List.drop_eq_getElem_cons (by omega)]
    congr 1
    have:=List.getElem?_eq_getElem (l:=xs) (i:=j') (by omega)
    rw [hx] at this
    exact (Option.some.inj this).symm
   rw [ed,List.map_cons,List.cons_append,eachA_step] at he
   have k24:=MFoot.trans (MFoot.trans k2 (MFoot.none k3)) k4
   refine Cb_of (fun hz=>?_) (fun hz=>?_)
   ·have hz:(eachM q.sz (recI v x) fs s2).1≠0:=by simpa using hz
    rw [if_pos hz] at he
    rw [← he] at hK
    exact Ret_nil.2 (hK w4 h4 k24)
   ·have hz:(eachM q.sz (recI v x) fs s2).1=0:=by simpa using hz
    rw [if_neg (by simp [hz])] at he
    exact ⟨_,by show ((i':Int)-IntKind.wrap .i64 ((j':Int)+1)).toNat<((i':Int)-(j':Int)).toNat;rw [ek];omega,⟨j'+1,_,ek,by omega,h4,he,k24⟩,rfl⟩
  ·have hc:j'=i':=by
    have:¬ (j':Int)<(i':Int):=by simpa using hc
    omega
   subst hc
   rw [List.drop_of_length_le (by omega)] at he
   refine DoQ_of (v:=.agg (recV (recK 4 v))) (fun _=>bld_rk 4 v _) (OpA_agg.2 ⟨rfl,?_⟩)
   refine i_eachM h2 rfl hr2 fun w4 h4 k4=>zA.2 ?_
   have e1:eachA q.sz fs (([]:List PutS).map (recI v)++[recK 4 v]) s2=eachM q.sz (recK 4 v) fs s2:=by
    show (if _ then _ else _)=_
    split
    ·rfl
    ·rename_i hz
     have hz:(eachM q.sz (recK 4 v) fs s2).1=0:=by simpa using hz
     show (0,(eachM q.sz (recK 4 v) fs s2).2)=_
     rw [← hz]
   rw [e1] at he
   rw [← he] at hK
   exact Ret_nil.2 (hK w4 h4 (MFoot.trans k2 k4))
theorem i_EndM {v:Int} {fs:List Bool} {rp:Option Addr} {rl rc:Nat} (h:MemsAt w q s) (hr:SlT dLay w 104 rp rl rc (fs.map (ramM q))) (hrl:rl≤1000000)
  (hK:∀ w',MemsAt w' q (eachM q.sz (recK 5 v) fs s).2→Keep (MFoot q w) w w'→R (.int .i64 (eachM q.sz (recK 5 v) fs s).1) w') :
  zB Tryz.prog 133 #[.slice rp rl rc,.int .u64 v] w R:=by
 apply C_intent_End
 unfold F_intent_End
 refine i_missing hr.sl hrl (OpB_bool.2 ((Cb_false (p:=_)).2 ?_))
 refine DoQ_of (v:=.agg (recV (recK 5 v))) (fun _=>bld_rk 5 v _) (OpA_agg.2 ⟨rfl,?_⟩)
 exact i_eachM h rfl hr fun w4 h4 k4=>zA.2 (Ret_nil.2 (hK w4 h4 k4))
end calls
end Go.Proofs
