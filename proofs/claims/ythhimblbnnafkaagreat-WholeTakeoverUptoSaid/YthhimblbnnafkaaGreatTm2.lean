import Derived.Test.YthhimblbnnafkaaGreatTm1
set_option linter.unusedSimpArgs false
set_option linter.unusedVariables false
namespace Go.Proofs
open Go Go.Ev
set_option maxRecDepth 100000
structure Rec where
 kind:Int
 ver:Int
 lba:Int
 data:Sec
instance:Inhabited Rec:=⟨⟨0,0,0,fun _=>0⟩⟩
def recL (r:Rec):List Value :=
 [.int .i64 r.kind,.int .u64 r.ver,.int .i64 r.lba,.int .u8 (r.data 0),.int .u8 (r.data 1),.int .u8 (r.data 2),.int .u8 (r.data 3),.int .u8 (r.data 4),.int .u8 (r.data 5),.int .u8 (r.data 6),.int .u8 (r.data 7),
  .int .u8 (r.data 8),.int .u8 (r.data 9),.int .u8 (r.data 10),.int .u8 (r.data 11),.int .u8 (r.data 12),.int .u8 (r.data 13),.int .u8 (r.data 14),.int .u8 (r.data 15)]
def recV (r:Rec):Array Value:=(recL r).toArray
@[simp] theorem size_recV (r:Rec):(recV r).size=19:=rfl
@[simp] theorem length_recL (r:Rec):(recL r).length=19:=rfl
theorem one_recL (r:Rec):∀ v∈recL r,oneV v=true:=by
 intro v hv
 simp only [recL,List.mem_cons,List.not_mem_nil,or_false] at hv
 rcases hv with rfl | rfl | rfl | rfl | rfl | rfl | rfl | rfl | rfl | rfl | rfl | rfl | rfl | rfl | rfl | rfl | rfl | rfl | rfl <;> rfl
theorem one_recL' (r:Rec):∀ v∈recL r,v.oneCell'=true:=by
 intro v hv
 simp only [recL,List.mem_cons,List.not_mem_nil,or_false] at hv
 rcases hv with rfl | rfl | rfl | rfl | rfl | rfl | rfl | rfl | rfl | rfl | rfl | rfl | rfl | rfl | rfl | rfl | rfl | rfl | rfl <;> rfl
def cmpI (x y:Int):Int:=if x<y then -1 else if x>y then 1 else 0
def cmpR (r s:Rec):Int:=if cmpI r.ver s.ver≠0 then cmpI r.ver s.ver else cmpI r.lba s.lba
theorem nan_int (x:Int) (w:World) {R:Value→World→Prop} (h:R (.bool false) w):zB Tryz.prog 267 #[.int .i64 x] w R:=by
 apply C_cmp_isNaN_int
 simpa [F_cmp_isNaN_int] using h
theorem nan_u64 (x:Int) (w:World) {R:Value→World→Prop} (h:R (.bool false) w):zB Tryz.prog 266 #[.int .u64 x] w R:=by
 apply C_cmp_isNaN_uint64
 simpa [F_cmp_isNaN_uint64] using h
theorem compare_int (x y:Int) (w:World) {R:Value→World→Prop} (h:R (.int .i64 (cmpI x y)) w):zB Tryz.prog 235 #[.int .i64 x,.int .i64 y] w R:=by
 apply C_cmp_Compare_int
 unfold F_cmp_Compare_int
 refine nan_int x w ?_
 simp only [OpB_bool]
 refine nan_int y w ?_
 simp only [OpB_bool,Cb_false,Ret_nil]
 unfold cmpI at h
 refine Cb_of (fun h1=>?_) (fun h1=>Cb_of (fun h2=>?_) (fun h2=>?_))
 ·rw [if_pos (by simpa using h1)] at h;exact h
 ·rw [if_neg (by simpa using h1),if_pos (by simpa using h2)] at h;exact h
 ·rw [if_neg (by simpa using h1),if_neg (by simpa using h2)] at h;exact h
theorem compare_u64 (x y:Int) (w:World) {R:Value→World→Prop} (h:R (.int .i64 (cmpI x y)) w):zB Tryz.prog 234 #[.int .u64 x,.int .u64 y] w R:=by
 apply C_cmp_Compare_uint64
 unfold F_cmp_Compare_uint64
 refine nan_u64 x w ?_
 simp only [OpB_bool]
 refine nan_u64 y w ?_
 simp only [OpB_bool,Cb_false,Ret_nil]
 unfold cmpI at h
 refine Cb_of (fun h1=>?_) (fun h1=>Cb_of (fun h2=>?_) (fun h2=>?_))
 ·rw [if_pos (by simpa using h1)] at h;exact h
 ·rw [if_neg (by simpa using h1),if_pos (by simpa using h2)] at h;exact h
 ·rw [if_neg (by simpa using h1),if_neg (by simpa using h2)] at h;exact h
theorem or_int (a b:Int) (x c:Nat) (w:World) {R:Value→World→Prop} (hb:Has w x (.cells #[.int .i64 a,.int .i64 b] 3 (0,0))) (h:R (.int .i64 (if a≠0 then a else b)) w) :
  zB Tryz.prog 233 #[.slice (some ⟨x,0,none⟩) 2 c] w R:=by
 apply C_cmp_Or_int
 unfold F_cmp_Or_int
 refine LoopC_of (σ:=Int×Unit) (fun s w'=>w'=w∧(s.1=0∨s.1=1∧a=0∨s.1=2∧a=0∧b=0)) (fun s _=>(2-s.1).toNat) ⟨rfl,Or.inl rfl⟩ ?_
 intro j s w' hI
 obtain ⟨i,u⟩:=s
 obtain ⟨rfl,hI⟩:=hI
 simp only at hI ⊢
 rcases hI with rfl | ⟨rfl,ha⟩ | ⟨rfl,ha,hb0⟩
 ·simp only [show (decide ((0:Int)<((2:Nat):Int)))=true from rfl,Cb_true]
  refine ⟨x,0,rfl,by decide,by decide,LdV_has (v:=.int .i64 a) hb rfl ?_⟩
  simp only [zA]
  refine Cb_of (fun h1=>?_) (fun h1=>?_)
  ·rw [if_pos (by simpa using h1)] at h;simpa using h
  ·exact ⟨_,by decide,⟨trivial,Or.inr (Or.inl ⟨rfl,by simpa using h1⟩)⟩,rfl⟩
 ·simp only [show (decide ((1:Int)<((2:Nat):Int)))=true from rfl,Cb_true]
  refine ⟨x,0,rfl,by decide,by decide,LdV_has (v:=.int .i64 b) hb rfl ?_⟩
  simp only [zA]
  refine Cb_of (fun h1=>?_) (fun h1=>?_)
  ·rw [if_neg (by simp [ha])] at h;simpa using h
  ·exact ⟨_,by decide,⟨trivial,Or.inr (Or.inr ⟨rfl,ha,by simpa using h1⟩)⟩,rfl⟩
 ·simp only [show (decide ((2:Int)<((2:Nat):Int)))=false from rfl,Cb_false,Ret_nil]
  rw [if_neg (by simp [ha]),hb0] at h;exact h
def sealB (xs:List Int):List Int:=xs++lowB (IntKind.wrap .u64 (crcS xs)) 4
def bareB (r:Rec):List Int:=IntKind.wrap .u8 r.kind::(lowB r.ver 8++lowB (IntKind.wrap .u64 r.lba) 8++secB r.data)
def packB (r:Rec):List Int:=sealB (bareB r)
def recGood (r:Rec):Bool:=decide (1≤r.kind) && decide (r.kind≤6) && decide (0≤r.lba) && decide (r.lba≤2147483647)
@[simp] theorem len_bareB (r:Rec):(bareB r).length=33:=by simp [bareB,secB]
@[simp] theorem len_packB (r:Rec):(packB r).length=37:=by simp [packB,sealB]
section calls
variable {w:World} {base:Nat} {p:Option Addr} {l c:Nat} {xs:List Int} {R:Value→World→Prop}
theorem c_seal (ho:OwnL byLay w base 5 p l c xs) (hl:l≤1000) (hb:base≤w.heap.size)
  (hK:∀ p' c' w',OwnL byLay w' base 5 p' (l+4) c' (sealB xs)→Keep (fun k=>p=some ⟨k,0,none⟩) w w'→(p'=p∨∃ k,w.heap.size≤k∧p'=some ⟨k,0,none⟩)→R (.slice p' (l+4) c') w'):zB Tryz.prog 264 #[.slice p l c] w R:=by
 apply C_codec_seal
 unfold F_codec_seal
 refine alc_fresh fun w1 hb1 k1 z1=>?_
 intro d
 refine ⟨fun _=>True,trivial,?_⟩
 refine ⟨by decide,by decide,by decide,by decide,?_⟩
 have k1d:Keep (fun _=>False) w (w1.dr d):=k1.dr d
 have o1:=ho.keep k1d (by simp)
 refine s_Crc o1.sl (by omega) ?_
 refine zA.2 ⟨trivial,?_⟩
 have z4:(zc Tryz.prog 378)=#[.int .u8 0,.int .u8 0,.int .u8 0,.int .u8 0]:=by kernel_rfl
 rw [z4] at hb1
 have of:OwnL byLay (w1.dr d) w.heap.size 378 (some ⟨w.heap.size,0,none⟩) 4 4 [0,0,0,0]:=OwnL.mk (xs:=[0,0,0,0]) (Nat.le_refl _) (hb1.dr d) (by decide) rfl
 refine c_number (lo:=0) (hi:=4) (m:=4) of (by omega) (by omega) (by omega) (by omega) (by omega) fun w2 o2 k2 z2=>?_
 refine ⟨trivial,?_⟩
 refine ⟨by decide,by decide,by decide,by decide,?_⟩
 have o2':OwnL byLay w2 w.heap.size 378 (some ⟨w.heap.size,0,none⟩) 4 4 (lowB (IntKind.wrap .u64 (crcS xs)) 4):=by simpa using o2
 have ho2:OwnL byLay w2 base 5 p l c xs:=o1.keep k2 fun k hk e=>by
  have h1:=(ho.lt hk).2
  have h2:w.heap.size=k:=by
   injection e with e
   injection e
  omega
 have hz2:w.heap.size≤w2.heap.size:=by rw [z2];show w.heap.size≤w1.heap.size;omega
 obtain ⟨p',c',w3,hr,o3,k3,hp⟩:=run_appendF byLayT ho2 o2'.sl (ty:=22) (c2:=4) (by omega) (by simp only [maxLen];omega) (Nat.le_trans hb hz2)
 refine ⟨_,_,hr,?_⟩
 refine zC.2 (Ret_nil.2 ?_)
 refine hK p' c' w3 o3 ?_ ?_
 ·have k02:Keep (fun _=>False) w w2:=k1d.trans' k2 fun k hk e=>by
   injection e with e
   injection e with e
   omega
  exact (k02.mono (by simp)).trans k3
 ·rcases hp with h | h
  ·exact Or.inl h
  ·exact Or.inr ⟨_,hz2,h⟩
theorem run_mk33 (w:World):(Instr.makeSlice 22 (.int .i64 33) (.int .i64 37)).run Tryz.prog w=.ok (.slice (some ⟨w.heap.size,0,none⟩) 33 37) (w.alloc (.cells (ofF 37 fun _=>.int .u8 0) 5)):=by
 have hs:((Tryz.prog.info? 5).get (by kernel_rfl)).size=1:=by kernel_rfl
 have hb:((Tryz.prog.info? 5).get (by kernel_rfl)).bytes=1:=by kernel_rfl
 have:=run_makeSlice (P:=Tryz.prog) (w:=w) 22 5 ((Tryz.prog.info? 5).get (by kernel_rfl)) (.int .u8 0) (by kernel_rfl) (by kernel_rfl) (by kernel_rfl) .i64 .i64 33 37 (by omega) (by omega)
  (by rw [hs];decide) (by rw [hb];decide) (by omega)
 have e:madeCells (Value.int .u8 0).cells ((37:Int).toNat*((Tryz.prog.info? 5).get (by kernel_rfl)).size)=ofF 37 fun _=>.int .u8 0:=by
  rw [hs];exact madeCells_one _ _
 rw [e] at this
 exact this
theorem own33 (w:World):OwnL byLay (w.alloc (.cells (ofF 37 fun _=>.int .u8 0) 5)) w.heap.size 5 (some ⟨w.heap.size,0,none⟩) 33 37 (List.replicate 33 0):=by
 refine Own.mk (cur:=ofF 37 fun _=>.int .u8 0) (Nat.le_refl _) (Has.new _ _) (by omega) (by decide) (by simp [byLay]) ?_
 rfl
theorem c_Pack {r:Rec} (hK0:recGood r=false→∀ w',Keep (fun _=>False) w w'→R (.tuple #[.slice none 0 0,.int .i64 2]) w')
  (hK1:recGood r=true→∀ g c' w',OwnL byLay w' w.heap.size 5 (some ⟨g,0,none⟩) 37 c' (packB r)→Keep (fun _=>False) w w'→R (.tuple #[.slice (some ⟨g,0,none⟩) 37 c',.int .i64 0]) w') :
  zB Tryz.prog 230 #[.agg (recV r)] w R:=by
 apply C_codec_Pack
 unfold F_codec_Pack
 refine alc_fresh fun w1 hb1 k1 z1=>?_
 generalize hbn:w.heap.size=b at *
 refine LdV_has (v:=.int .i64 r.kind) hb1 rfl ?_
 refine zA.2 ?_
 have bad:recGood r=false→Ret [] (R (.tuple #[.slice none 0 0,.int .i64 2]) w1):=fun h=>Ret_nil.2 (hK0 h w1 k1)
 refine Cb_of (fun h=>bad (by unfold recGood;simp only [decide_eq_true_eq] at h;simp [show ¬ 1≤r.kind by omega])) (fun h1=>?_)
 refine LdV_has (v:=.int .i64 r.kind) hb1 rfl ?_
 refine zA.2 ?_
 refine Cb_of (fun h=>bad (by unfold recGood;simp only [decide_eq_true_eq] at h;simp [show ¬ r.kind≤6 by omega])) (fun h2=>?_)
 refine LdV_has (v:=.int .i64 r.lba) hb1 rfl ?_
 refine zA.2 ?_
 refine Cb_of (fun h=>bad (by unfold recGood;simp only [decide_eq_true_eq] at h;simp [show ¬ 0≤r.lba by omega])) (fun h3=>?_)
 refine LdV_has (v:=.int .i64 r.lba) hb1 rfl ?_
 refine zA.2 ?_
 refine Cb_of (fun h=>bad (by unfold recGood;simp only [decide_eq_true_eq] at h;simp [show ¬ r.lba≤2147483647 by omega])) (fun h4=>?_)
 have hgood:recGood r=true:=by
  simp only [decide_eq_false_iff_not] at h1 h2 h3 h4
  unfold recGood
  simp only [Bool.and_eq_true,decide_eq_true_eq]
  omega
 refine ⟨_,_,run_mk33 w1,?_⟩
 refine zC.2 ?_
 have o2:=own33 w1
 have k2:Keep (fun _=>False) w1 (w1.alloc (.cells (ofF 37 fun _=>.int .u8 0) 5)):=Keep.new _ _ _
 generalize w1.alloc (.cells (ofF 37 fun _=>.int .u8 0) 5)=w2 at *
 generalize hgn:w1.heap.size=g at *
 have hbg:b<g:=by omega
 have hb2:=k2.has hb1 (by simp)
 refine LdV_has (v:=.int .i64 r.kind) hb2 rfl ?_
 refine zA.2 ?_
 refine o2.stF (i:=0) (n:=1) (t:=0) (x:=0) (y:=IntKind.wrap .u8 r.kind) rfl (by decide) rfl (by decide) rfl rfl fun w3 o3 k3 z3=>?_
 have e3:(List.replicate 33 (0:Int)).set (0:Int).toNat (IntKind.wrap .u8 r.kind)=IntKind.wrap .u8 r.kind::List.replicate 32 0:=rfl
 rw [e3] at o3
 have kg:∀ {w' w'':World},Keep (fun k=>(some ⟨g,0,none⟩:Option Addr)=some ⟨k,0,none⟩) w' w''→Keep (fun k=>k=g) w' w'':=fun h=>h.mono fun k hk=>by
  injection hk with hk
  injection hk with hk
  exact hk.symm
 have hb3:=(kg k3).has hb2 (by omega)
 intro d
 refine ⟨fun _=>True,trivial,?_⟩
 refine ⟨by decide,by decide,by decide,by decide,?_⟩
 refine LdV_has (v:=.int .u64 r.ver) (hb3.dr d) rfl ?_
 refine zA.2 ?_
 have o3d:=o3.keep (Keep.drew (fun _=>False) w3 d) (by simp)
 refine c_number (lo:=1) (hi:=9) (m:=37) o3d (by omega) (by omega) (by omega) (by omega) (by omega) fun w4 o4 k4 z4=>?_
 refine ⟨trivial,?_⟩
 have e4:(IntKind.wrap .u8 r.kind::List.replicate 32 (0:Int)).take 1++lowB r.ver (9-1)++(IntKind.wrap .u8 r.kind::List.replicate 32 (0:Int)).drop 9=IntKind.wrap .u8 r.kind::(lowB r.ver 8++List.replicate 24 0):=rfl
 rw [e4] at o4
 have hb4:=(kg k4).has (hb3.dr d) (by omega)
 intro d2
 refine ⟨fun w'=>Has w' b (.cells (recV r) 246 (0,0)),hb4.dr d2,?_⟩
 refine ⟨by decide,by decide,by decide,by decide,?_⟩
 refine LdV_of (v:=.int .i64 r.lba) (fun w' hw=>⟨_,_,_,hw,rfl⟩) ?_
 refine zA.2 ?_
 have o4d:=o4.keep (Keep.drew (fun _=>False) w4 d2) (by simp)
 refine c_number (lo:=9) (hi:=17) (m:=37) o4d (by omega) (by omega) (by omega) (by omega) (by omega) fun w5 o5 k5 z5=>?_
 have hb5:=(kg k5).has (hb4.dr d2) (by omega)
 refine ⟨hb5,?_⟩
 have e5:(IntKind.wrap .u8 r.kind::(lowB r.ver 8++List.replicate 24 (0:Int))).take 9++lowB (IntKind.wrap .u64 r.lba) (17-9)++(IntKind.wrap .u8 r.kind::(lowB r.ver 8++List.replicate 24 (0:Int))).drop 17=IntKind.wrap .u8 r.kind::(lowB r.ver 8++lowB (IntKind.wrap .u64 r.lba) 8++List.replicate 16 0):=rfl
 rw [e5] at o5
 intro d3 _
 refine ⟨by decide,by decide,by decide,by decide,?_⟩
 refine ⟨by decide,by decide,by decide,by decide,?_⟩
 have o5d:=o5.keep (Keep.drew (fun _=>False) w5 d3) (by simp)
 obtain ⟨w6,hr6,o6,k6⟩:=own_copy (a:=⟨b,3,none⟩) (ds:=secB r.data) (lo:=17) (n:=16) o5d (fun j x hx=>by
  rw [add_add',cell_of (hb5.dr d3)]
  have:(recV r)[3+j]? = ((secB r.data).map fun y=>Value.int .u8 y)[j]? := by
   have e:(recV r).toList.drop 3=(secB r.data).map fun y=>Value.int .u8 y:=rfl
   rw [← e,List.getElem?_drop,Array.getElem?_toList]
  rw [this,List.getElem?_map,hx];rfl) rfl (by omega) 20 16
 refine ⟨_,_,hr6,?_⟩
 refine zA.2 ?_
 have e6:(IntKind.wrap .u8 r.kind::(lowB r.ver 8++lowB (IntKind.wrap .u64 r.lba) 8++List.replicate 16 (0:Int))).take 17++secB r.data++(IntKind.wrap .u8 r.kind::(lowB r.ver 8++lowB (IntKind.wrap .u64 r.lba) 8++List.replicate 16 (0:Int))).drop (17+16)=bareB r:=rfl
 rw [e6] at o6
 have s23:=k2.size
 have k26:Keep (fun k=>k=g) w2 w6:=(((((kg k3).dr d).trans (kg k4)).dr d2).trans (kg k5)).dr d3 |>.trans k6
 have hz6:=k26.size
 refine c_seal o6 (by omega) (by omega) fun p7 c7 w7 o7 k7 hp7=>?_
 refine zC.2 (Ret_nil.2 ?_)
 have k07:Keep (fun _=>False) w w7:=((k1.trans k2).trans' k26 fun k hk e=>by omega).trans' k7 fun k hk e=>by
  injection e with e
  injection e with e
  omega
 have o7':=o7.rebase (base':=b) (by omega)
 have hpne:∃ g',p7=some ⟨g',0,none⟩:=by
  rcases hp7 with h | ⟨k,_,h⟩
  ·exact ⟨g,h⟩
  ·exact ⟨k,h⟩
 obtain ⟨g',rfl⟩:=hpne
 exact hK1 hgood g' c7 w7 o7' k07
end calls
theorem bin_str (s t:ByteArray) (w:World):(binOp .eql 9 (.string s) (.string t)).run Tryz.prog w=.ok (.bool (s.toList==t.toList)) w:=by kernel_rfl
theorem EqB_str {x y:Operand} {s t:ByteArray} {C:World→Prop} {K:Bool→Prop} (hK:K (s.toList==t.toList)):EqB Tryz.prog .eql 9 x y (.string s) (.string t) C K:=by
 refine ⟨s.toList==t.toList,fun w _=>?_,hK⟩
 have hg:Tryz.prog.eqGuardType Tryz.prog.depth 9=false:=by kernel_rfl
 have:=bin_str s t w
 simp only [eqGuard,Sem.run_bind,run_program,hg,Bool.not_false,if_true,Result.andThen_ok,this]
 try simp [Sem.run_bind,Sem.run_pure,run_program,hg,this]
theorem strOfNums_inj {xs ys:List Int} (hx:∀ x∈xs,0≤x∧x≤255) (hy:∀ x∈ys,0≤x∧x≤255) (h2:(strOfNums xs).data.toList=(strOfNums ys).data.toList):xs=ys:=by
 have e:∀ l:List Int,(strOfNums l).data.toList=l.map fun n=>n.toNat.toUInt8:=fun l=>by simp [strOfNums]
 simp only [e] at h2
 clear e
 induction xs generalizing ys with
 | nil=>cases ys with
  | nil=>rfl
  | cons y ys=>simp at h2
 | cons x xs ih=>cases ys with
  | nil=>simp at h2
  | cons y ys =>
   simp only [List.map_cons,List.cons.injEq] at h2
   have h3:=congrArg UInt8.toNat h2.1
   have a:=hx x (by simp)
   have b:=hy y (by simp)
   have c:∀ n:Nat,n<256→(n.toUInt8).toNat=n:=fun n hn=>by
    show (UInt8.ofNat n).toNat=n
    rw [UInt8.toNat_ofNat',Nat.mod_eq_of_lt hn]
   rw [c _ (by omega),c _ (by omega)] at h3
   rw [show x=y by omega,ih (fun z hz=>hx z (by simp [hz])) (fun z hz=>hy z (by simp [hz])) h2.2]
section calls
variable {w:World} {p q:Option Addr} {l m c d:Nat} {xs ys:List Int} {R:Value→World→Prop}
theorem conv_by (h:SlL byLay w p l xs):(convert 22 9 (.slice p l c)).run Tryz.prog w=.ok (.string (strOfNums xs)) w:=by
 by_cases h0:0<l
 ·obtain ⟨b,o,rfl,hc⟩:=h.cells h0
  refine run_convert_bytes_arg (P:=Tryz.prog) w 22 5 (by kernel_rfl) (by kernel_rfl) b o l c xs h.1.symm (fun i hi=>hc i _ ?_) 9 (by kernel_rfl)
  have hlt:i<xs.length:=by have:=h.1;omega
  rw [by_rows,List.getElem?_map,List.getElem?_eq_getElem hlt,List.getD_eq_getElem?_getD,List.getElem?_eq_getElem hlt];rfl
 ·have hz:l=0:=by omega
  have hxs:xs=[]:=List.eq_nil_of_length_eq_zero (by rw [← h.1];exact hz)
  subst hz hxs
  cases p with
  | none =>
   have:=run_convert_bytes_nil (P:=Tryz.prog) w 22 5 (by kernel_rfl) (by kernel_rfl) 0 c 9 (by kernel_rfl)
   rw [this];rfl
  | some a =>
   rw [run_convert_bytes_string w _ _ 5 _ 0 c (by kernel_rfl) (by kernel_rfl) (by kernel_rfl)]
   have:=run_bytesToString (P:=Tryz.prog) w a 0 c [] (by rfl)
   rw [this];rfl
theorem b_Equal (h1:SlL byLay w p l xs) (h2:SlL byLay w q m ys) (hx:∀ x∈xs,0≤x∧x≤255) (hy:∀ x∈ys,0≤x∧x≤255) (hK:∀ g:Bool,(g=true ↔ xs=ys)→R (.bool g) w):zB Tryz.prog 253 #[.slice p l c,.slice q m d] w R:=by
 apply C_bytes_Equal
 unfold F_bytes_Equal
 refine DoQ_of (fun dd=>conv_by (h1.keepB (S:=fun _=>False) (Keep.drew _ _ dd) (by simp))) ?_
 refine OpT_str.2 ?_
 refine DoQ_of (fun dd=>conv_by (h2.keepB (S:=fun _=>False) (Keep.drew _ _ dd) (by simp))) ?_
 refine OpT_str.2 ?_
 refine EqB_str (Ret_nil.2 (hK _ ?_))
 constructor
 ·intro h
  rw [ByteArray.toList_eq,ByteArray.toList_eq] at h
  exact strOfNums_inj hx hy (eq_of_beq h)
 ·rintro rfl
  simp
end calls
theorem wrap8 (x:Int):0≤IntKind.wrap .u8 x∧IntKind.wrap .u8 x≤255:=by
 simp [IntKind.wrap,IntKind.signed,IntKind.bits]
 omega
theorem by_lowB (n:Int):∀ i,By (lowB n i)
 | 0=>by intro x h;simp [lowB] at h
 | i+1=>by
  intro x h
  unfold lowB at h
  rcases List.mem_cons.1 h with e | e
  ·rw [e];exact wrap8 _
  ·exact by_lowB n i x e
theorem By.append {xs ys:List Int} (h:By xs) (k:By ys):By (xs++ys):=fun x hx=>by
 rcases List.mem_append.1 hx with e | e
 ·exact h x e
 ·exact k x e
theorem by_packB {r:Rec} (h:SecOk r.data):By (packB r):=by
 unfold packB sealB bareB
 refine By.append ?_ (by_lowB _ _)
 intro x hx
 rcases List.mem_cons.1 hx with e | e
 ·rw [e];exact wrap8 _
 ·refine By.append (By.append (by_lowB _ _) (by_lowB _ _)) ?_ x e
  intro y hy
  simp only [secB,List.mem_cons,List.not_mem_nil,or_false] at hy
  rcases hy with rfl | rfl | rfl | rfl | rfl | rfl | rfl | rfl | rfl | rfl | rfl | rfl | rfl | rfl | rfl | rfl <;> exact h _
def zeroR:Rec:=⟨0,0,0,sec []⟩
def unB (xs:List Int):Rec:=⟨IntKind.wrap .i64 (xs.getD 0 0),readB ((xs.take 9).drop 1),IntKind.wrap .i64 (readB ((xs.take 17).drop 9)),fun k=>xs.getD (17+k.val) 0⟩
theorem un_sec {xs:List Int} (h:By xs):SecOk (unB xs).data:=by
 intro k
 show 0≤xs.getD (17+k.val) 0∧xs.getD (17+k.val) 0≤255
 by_cases hk:17+k.val<xs.length
 ·rw [List.getD_eq_getElem?_getD,List.getElem?_eq_getElem hk]
  exact h _ (List.getElem_mem _)
 ·rw [List.getD_eq_getElem?_getD,List.getElem?_eq_none (by omega)];simp
def unGood (xs:List Int):Prop:=recGood (unB xs)=true∧packB (unB xs)=xs.take 37
theorem bld_zero (w:World):(Instr.build 246 #[]).run Tryz.prog w=.ok (.agg (recV zeroR)) w:=run_build _ _ _ _ (by kernel_rfl)
theorem zc_rc:(zc Tryz.prog 246).size=19:=by kernel_rfl
theorem one_recV (r:Rec):∀ v∈(recV r).toList,oneV v=true:=one_recL r
def UZero (b:Nat) (e:Int) (w:World) (R:Value→World→Prop):Prop :=
 DoQ Tryz.prog (Instr.build 246 #[]) (At w) fun v8=>OpA 19 v8 fun cs5=>StA 19 b 0 cs5 w fun w=>LdA 19 b 0 (At w) fun cs6=>Ret [] (R (.tuple #[.agg cs6,.int .i64 e]) w)
def URest (bp:Option Addr) (bl bc b b3:Nat) (w:World) (R:Value→World→Prop):Prop :=
 LdA 19 b3 0 (At w) fun cs4=>zB Tryz.prog 230 #[.agg cs4] w fun v5 w=>T2 v5 fun v6 v7=>OpS v6 fun p l3 c=>OpI .i64 v7 fun n3=>Cb (n3 !=0) (UZero b 7 w R) (Slc bl bc none (some 37) none fun l4 h3 m3=>zB Tryz.prog 253 #[.slice p l3 c,.slice (slcP 1 l4 m3 bp) (h3-l4) (m3-l4)] w fun v9 w=>OpB v9 fun g=>Cb (!g) (UZero b 7 w R) (LdA 19 b3 0 (At w) fun cs9=>StA 19 b 0 cs9 w fun w=>LdA 19 b 0 (At w) fun cs10=>Ret [] (R (.tuple #[.agg cs10,.int .i64 0]) w)))
section calls
variable {w:World} {p:Option Addr} {l c:Nat} {xs:List Int} {R:Value→World→Prop}
theorem u_zero {b:Nat} {e:Int} {c0:Array Value} (hb:Has w b (.cells c0 246 (0,0))) (h0:c0.size=19) (hK:∀ w',Keep (fun k=>k=b) w w'→R (.tuple #[.agg (recV zeroR),.int .i64 e]) w'):UZero b e w R:=by
 unfold UZero
 refine DoQ_of (fun d=>bld_zero _) ?_
 refine OpA_agg.2 ⟨rfl,?_⟩
 refine StA_all hb rfl h0 (one_recV _) ?_
 refine LdA_all (hb.upd_same _) rfl ?_
 exact Ret_nil.2 (hK _ (Keep.one _ _ _))
theorem Slc_hi37 {n cap:Nat} {K:Nat→Nat→Nat→Prop} (h1:37≤cap) (hK:K 0 37 cap):Slc n cap none (some 37) none K:=by
 refine ⟨by decide,(show (0:Int)≤37 by decide),?_,?_,?_⟩
 ·show (37:Int)≤(cap:Int);omega
 ·show (cap:Int)≤(cap:Int);omega
 ·show K (Int.toNat 0) (Int.toNat 37) (Int.toNat (cap:Int))
  rw [Int.toNat_natCast];exact hK
theorem u_rest {r:Rec} {b b3:Nat} {c0:Array Value} (h:SlL byLay w p l xs) (hl:37≤l) (hlc:l≤c) (hby:By xs) (hsec:SecOk r.data) (hb:Has w b (.cells c0 246 (0,0))) (h0:c0.size=19) (hb3:Has w b3 (.cells (recV r) 246 (0,0))) (hne:b≠b3)
  (hK:∀ (g:Bool) w',(g=true ↔ recGood r=true∧packB r=xs.take 37)→Keep (fun k=>k=b) w w'→R (.tuple #[.agg (recV (if g=true then r else zeroR)),.int .i64 (if g=true then 0 else 7)]) w'):URest p l c b b3 w R:=by
 unfold URest
 have hlen:=h.1
 refine LdA_all hb3 rfl ?_
 refine c_Pack (fun hg w1 k1=>?_) (fun hg g' c' w1 o1 k1=>?_)
 ·refine T2_mk.2 (zC.2 (zA.2 ?_))
  refine (Cb_true (q:=_)).2 ?_
  refine u_zero (k1.has hb (by simp)) h0 fun w2 k2=>?_
  exact hK false w2 (by rw [hg];simp) ((k1.mono (by simp)).trans k2)
 ·refine T2_mk.2 (zC.2 (zA.2 ?_))
  refine (Cb_false (p:=_)).2 ?_
  refine Slc_hi37 (by omega) ?_
  have hs:=(h.keepB k1 (by simp)).sub (lo:=0) (hi:=37) (m:=c) (by omega) (by omega) (by omega)
  rw [List.drop_zero] at hs
  refine b_Equal o1.sl hs (by_packB hsec) (fun x hx=>hby x (List.mem_of_mem_take hx)) fun g hgg=>?_
  refine OpB_bool.2 ?_
  refine Cb_of (fun hf=>?_) (fun hf=>?_)
  ·have hf:g=false:=by simpa using hf
   subst hf
   refine u_zero (k1.has hb (by simp)) h0 fun w2 k2=>?_
   refine hK false w2 ⟨fun h=>(by cases h),fun h=>?_⟩ ((k1.mono (by simp)).trans k2)
   have:=hgg.2 h.2
   cases this
  ·have hf:g=true:=by simpa using hf
   subst hf
   refine LdA_all (k1.has hb3 (by simp)) rfl ?_
   refine StA_all (k1.has hb (by simp)) rfl h0 (one_recV r) ?_
   refine LdA_all ((k1.has hb (by simp)).upd_same _) rfl ?_
   exact Ret_nil.2 (hK true _ ⟨fun _=>⟨hg,hgg.1 rfl⟩,fun _=>rfl⟩ ((k1.mono (by simp)).trans (Keep.one _ _ _)))
theorem SlL.ldS {α:Type} {L:Lay α} {S:World→Prop} {w0:World} {p:Option Addr} {l:Nat} {xs:List α} (h0:S w0) (h:∀ w',S w'→SlL L w' p l xs) {i:Int} {x:α} {n:Nat} {v:Value} (hn:L.size=n) (hi0:0≤i) (hi:xs[i.toNat]? = some x)
  (hv:(L.row x)[0]? = some v) {K:Value→Prop} (hK:K v):IdxS p l i n fun b o=>LdV b o S K:=by
 subst hn
 obtain ⟨b,o,hp,_⟩:=(h w0 h0).2 _ x hi
 have hlt:=(List.getElem?_eq_some_iff.1 hi).1
 refine ⟨b,o,hp,hi0,by have:=(h w0 h0).1;omega,v,fun w' hw=>?_,hK⟩
 obtain ⟨b',o',hp',hc⟩:=(h w' hw).2 _ x hi
 rw [hp] at hp'
 cases hp'
 have:=hc 0 L.pos
 rw [Nat.add_zero] at this
 rw [this,hv]
theorem get_secV (f:Sec) {k:Nat} (hk:k<16):(secV f)[k]? = some (.int .u8 (f ⟨k,hk⟩)):=by
 match k,hk with
 | 0,_=>rfl | 1,_=>rfl | 2,_=>rfl | 3,_=>rfl | 4,_=>rfl | 5,_=>rfl | 6,_=>rfl | 7,_=>rfl
 | 8,_=>rfl | 9,_=>rfl | 10,_=>rfl | 11,_=>rfl | 12,_=>rfl | 13,_=>rfl | 14,_=>rfl | 15,_=>rfl
 | n+16,h=>exact absurd h (by omega)
theorem arr16 {S:World→Prop} {w0:World} (h0:S w0) (h:∀ w',S w'→SlL byLay w' p l xs) (hl:33≤l) (hc17:c≠17) {K:Array Value→Prop} (hK:K (secV fun k=>xs.getD (17+k.val) 0)):SlArr (slcP 1 17 c p) (33-17) 16 fun b2 o1=>LdA 16 b2 o1 S K:=by
 obtain ⟨b,o,hp,_⟩:=(h w0 h0).cells (by omega)
 refine ⟨b,o+17,?_,by decide,secV fun k=>xs.getD (17+k.val) 0,rfl,fun w' hw i hi=>?_,hK⟩
 ·unfold slcP
  rw [if_neg hc17,hp];simp [add_add']
 ·have h1:=h w' hw
  obtain ⟨b',o',hp',hc⟩:=h1.cells (by omega)
  rw [hp] at hp'
  cases hp'
  have hlt:17+i<xs.length:=by have:=h1.1;omega
  rw [get_secV _ hi,Nat.add_assoc]
  refine hc (17+i) _ ?_
  rw [by_rows,List.getElem?_map,List.getElem?_eq_getElem hlt,List.getD_eq_getElem?_getD,List.getElem?_eq_getElem hlt];rfl
theorem bld_rc (k v l:Int) (f:Sec) (w:World):(Instr.build 246 #[(0,.int .i64 k),(1,.int .u64 v),(2,.int .i64 l),(3,.agg (secV f))]).run Tryz.prog w=.ok (.agg (recV ⟨k,v,l,f⟩)) w:=run_build _ _ _ _ (by kernel_rfl)
theorem c_Unpack (h:SlL byLay w p l xs) (hl:37≤l) (hlm:l≤1000000) (hlc:l≤c) (hby:By xs)
  (hK:∀ (g:Bool) w',(g=true ↔ unGood xs)→Keep (fun _=>False) w w'→R (.tuple #[.agg (recV (if g=true then unB xs else zeroR)),.int .i64 (if g=true then 0 else 7)]) w'):zB Tryz.prog 207 #[.slice p l c] w R:=by
 apply C_codec_Unpack
 unfold F_codec_Unpack
 have hlen:=h.1
 rw [Alc_iff]
 have hb1:Has (w.alloc (.cells (zc Tryz.prog 246) 246)) w.heap.size (.cells (zc Tryz.prog 246) 246 (0,0)):=Has.new _ _
 have k1:Keep (fun _=>False) w (w.alloc (.cells (zc Tryz.prog 246) 246)):=Keep.new _ _ _
 have z1:(w.alloc (.cells (zc Tryz.prog 246) 246)).heap.size=w.heap.size+1:=by simp
 generalize w.alloc (.cells (zc Tryz.prog 246) 246)=w1 at *
 generalize hbn:w.heap.size=b at *
 refine Cb_of (fun hc=>by simp only [decide_eq_true_eq] at hc;omega) (fun _=>?_)
 intro d
 have k1d:Keep (fun _=>False) w (w1.dr d):=k1.dr d
 have hS:SlL byLay (w1.dr d) p l xs:=h.keepB k1d (by simp)
 refine ⟨fun w'=>SlL byLay w' p l xs,hS,?_⟩
 refine SlL.ldS (L:=byLay) (S:=fun w'=>SlL byLay w' p l xs) (w0:=w1.dr d) hS (fun w' h=>h) rfl (by omega) (x:=xs.getD 0 0) (by rw [show (0:Int).toNat=0 from rfl,List.getD_eq_getElem?_getD,List.getElem?_eq_getElem (by omega)];rfl) (v:=.int .u8 (xs.getD 0 0)) rfl ?_
 refine zA.2 ?_
 have slc:∀ {lo hi:Nat} {K:Nat→Nat→Nat→Prop},lo≤hi→hi≤37→K lo hi c→Slc l c (some (lo:Int)) (some (hi:Int)) none K:=by
  intro lo hi K h1 h2 hk
  refine ⟨?_,?_,?_,?_,?_⟩
  ·show (0:Int)≤(lo:Int);omega
  ·show (lo:Int)≤(hi:Int);omega
  ·show (hi:Int)≤(c:Int);omega
  ·show (c:Int)≤(c:Int);omega
  ·show K (Int.toNat (lo:Int)) (Int.toNat (hi:Int)) (Int.toNat (c:Int))
   rw [Int.toNat_natCast,Int.toNat_natCast,Int.toNat_natCast];exact hk
 refine slc (lo:=1) (hi:=9) (by omega) (by omega) ?_
 refine slc (lo:=9) (hi:=17) (by omega) (by omega) ?_
 refine slc (lo:=17) (hi:=33) (by omega) (by omega) ?_
 refine arr16 (S:=fun w'=>SlL byLay w' p l xs) (w0:=w1.dr d) hS (fun w' h=>h) (by omega) (by omega) ?_
 have rd1:∀ {w':World} {R':Value→World→Prop},SlL byLay w' p l xs→R' (.int .u64 (unB xs).ver) w'→zB Tryz.prog 252 #[.slice (slcP 1 1 c p) (9-1) (c-1)] w' R':=fun h' k =>
  c_read (h'.sub (lo:=1) (hi:=9) (m:=c) (by omega) (by omega) (by omega)) (by omega) k
 have rd2:∀ {w':World} {R':Value→World→Prop},SlL byLay w' p l xs→R' (.int .u64 (readB ((xs.take 17).drop 9))) w'→zB Tryz.prog 252 #[.slice (slcP 1 9 c p) (17-9) (c-9)] w' R':=fun h' k =>
  c_read (h'.sub (lo:=9) (hi:=17) (m:=c) (by omega) (by omega) (by omega)) (by omega) k
 have rest:∀ {w':World} {b3:Nat},Keep (fun _=>False) (w1.dr d) w'→Has w' b3 (.cells (recV (unB xs)) 246 (0,0))→b≠b3→URest p l c b b3 w' R:=by
  intro w' b3 k h3 hne
  refine u_rest (h.keepB (k1d.trans k) (by simp)) hl hlc hby (un_sec hby) (k.has (hb1.dr d) (by simp)) zc_rc h3 hne fun g w2 hg k2=>?_
  refine hK g w2 hg ((k1d.trans k).trans' k2 fun k hk e=>by omega)
 have fresh:∀ {w':World},Keep (fun _=>False) (w1.dr d) w'→b≠w'.heap.size:=fun k=>by
  have:=k.size
  have e:(w1.dr d).heap.size=b+1:=z1
  omega
 have put:∀ {w':World},Keep (fun _=>False) (w1.dr d) w'→SlL byLay w' p l xs→Alc 246 (zc Tryz.prog 246) w' fun b3 w=>Hld (SlL byLay w p l xs) (StA 19 b3 0 (recV (unB xs)) w fun w=>Hld (SlL byLay w p l xs) (URest p l c b b3 w R)):=by
  intro w' k hs
  rw [Alc_iff]
  have k2:Keep (fun _=>False) (w1.dr d) (w'.alloc (.cells (zc Tryz.prog 246) 246)):=k.alloc _
  refine ⟨hs.keepB (Keep.new (fun _=>False) _ _) (by simp),?_⟩
  refine StA_all (Has.new _ _) rfl zc_rc (one_recV _) ?_
  have k3:Keep (fun _=>False) w' ((w'.alloc (.cells (zc Tryz.prog 246) 246)).upd w'.heap.size (.cells (recV (unB xs)) 246 (0,0))):=(Keep.new _ _ _).upd (by omega) _
  refine ⟨hs.keepB k3 (by simp),?_⟩
  exact rest (k.trans k3) ((Has.new _ _).upd_same _) (fresh k)
 refine ⟨?_,?_⟩
 ·refine rd1 hS ?_
  refine zA.2 ⟨hS,?_⟩
  refine ⟨?_,?_⟩
  ·refine rd2 hS ?_
   refine zA.2 ⟨hS,?_⟩
   refine ⟨_,fun w' _=>bld_rc _ _ _ _ w',OpA_agg.2 ⟨rfl,?_⟩⟩
   exact put (Keep.refl _ _) hS
  ·rw [Alc_iff]
   have hz:=Has.new (w1.dr d) (.cells (zc Tryz.prog 246) 246)
   have kz:Keep (fun _=>False) (w1.dr d) ((w1.dr d).alloc (.cells (zc Tryz.prog 246) 246)):=Keep.new _ _ _
   have hs2:=hS.keepB kz (by simp)
   refine ⟨hs2,?_⟩
   refine rd2 hs2 ?_
   refine zA.2 ⟨hs2,?_⟩
   refine DoQ_of (fun d=>bld_rc _ _ _ _ _) ?_
   refine OpA_agg.2 ⟨rfl,?_⟩
   refine StA_all hz rfl zc_rc (one_recV _) ?_
   have k3:Keep (fun _=>False) (w1.dr d) (((w1.dr d).alloc (.cells (zc Tryz.prog 246) 246)).upd (w1.dr d).heap.size (.cells (recV (unB xs)) 246 (0,0))):=kz.upd (by omega) _
   exact ⟨hS.keepB k3 (by simp),rest k3 (hz.upd_same _) (fresh (Keep.refl _ _))⟩
 ·rw [Alc_iff]
  have hz:=Has.new (w1.dr d) (.cells (zc Tryz.prog 246) 246)
  have kz:Keep (fun _=>False) (w1.dr d) ((w1.dr d).alloc (.cells (zc Tryz.prog 246) 246)):=Keep.new _ _ _
  have hs2:=hS.keepB kz (by simp)
  refine ⟨hs2,?_⟩
  refine rd1 hs2 ?_
  refine zA.2 ⟨hs2,?_⟩
  refine rd2 hs2 ?_
  refine zA.2 ⟨hs2,?_⟩
  refine DoQ_of (fun d=>bld_rc _ _ _ _ _) ?_
  refine OpA_agg.2 ⟨rfl,?_⟩
  refine StA_all hz rfl zc_rc (one_recV _) ?_
  have k3:Keep (fun _=>False) (w1.dr d) (((w1.dr d).alloc (.cells (zc Tryz.prog 246) 246)).upd (w1.dr d).heap.size (.cells (recV (unB xs)) 246 (0,0))):=kz.upd (by omega) _
  exact ⟨hS.keepB k3 (by simp),rest k3 (hz.upd_same _) (fresh (Keep.refl _ _))⟩
theorem c_Unpack_short (h:SlL byLay w p l xs) (hl:l<37) (hK:∀ w',Keep (fun _=>False) w w'→R (.tuple #[.agg (recV zeroR),.int .i64 1]) w'):zB Tryz.prog 207 #[.slice p l c] w R:=by
 apply C_codec_Unpack
 unfold F_codec_Unpack
 refine alc_fresh fun w1 hb1 k1 z1=>?_
 refine Cb_of (fun _=>?_) (fun hc=>by simp only [decide_eq_false_iff_not] at hc;omega)
 refine u_zero hb1 zc_rc fun w2 k2=>hK w2 (k1.trans' k2 fun k hk e=>by omega)
end calls
theorem run_appendF1 {P:Program} {α:Type} {L:Lay α} {t e:TypeId} {bytes:Nat} {w:World} {base:Nat} {p:Option Addr} {l c:Nat} {xs:List α} (T:LayT P L t e bytes) (h:OwnL L w base e p l c xs) {a:Nat} {y:α} {cs:Array Value} {f:Nat×Nat} {e2:TypeId} (ha:Has w a (.cells cs e2 f)) (hcs:cs=(L.row y).toArray) {ty:TypeId}
  (hl:((l+1)+(l+1) / 4+192)*bytes≤281474976710656) (hm:l+1≤maxLen) (hbase:base≤w.heap.size) {c2:Nat} :
  ∃ p' c' w',(Builtin.append_ #[t,t] ty #[.slice p l c,.slice (some ⟨a,0,none⟩) 1 c2]).run P w=.ok (.slice p' (l+1) c') w'∧OwnL L w' base e p' (l+1) c' (xs++[y])∧Keep (fun k=>p=some ⟨k,0,none⟩) w w'∧(p'=p∨p'=some ⟨w.heap.size,0,none⟩):=by
 refine run_appendF T h (ys:=[y]) ⟨rfl,fun i x hi=>?_⟩ hl hm hbase
 match i,hi with
 | 0,hi =>
  cases hi
  exact ⟨a,0,rfl,fun j hj=>by rw [cell_of ha,hcs];simp⟩
 | i+1,hi=>simp at hi
def rLay:Lay Rec:=⟨19,recL,fun _=>rfl,one_recL,by decide⟩
instance (xs:List Int):Decidable (unGood xs):=by unfold unGood;infer_instance
def scanF:Nat→List Int→List Rec
 | 0,_=>[]
 | n+1,xs=>if 37≤xs.length∧unGood xs then unB xs::scanF n (xs.drop 37) else []
def scanB (xs:List Int):List Rec:=scanF (xs.length+1) xs
theorem rLayT:LayT Tryz.prog rLay 113 246 40:=⟨by kernel_rfl,⟨(Tryz.prog.info? 246).get (by kernel_rfl),((Tryz.prog.info? 246).get (by kernel_rfl)).zero.get (by kernel_rfl),by kernel_rfl,by kernel_rfl,by kernel_rfl,by kernel_rfl,by kernel_rfl⟩⟩
theorem bsl_r1 (r:Rec) (w:World):(Instr.buildSlice 113 1 #[(0,.agg (recV r))]).run Tryz.prog w=.ok (.slice (some ⟨w.heap.size,0,none⟩) 1 1) (w.alloc (.cells (recV r) 246)) :=
 run_buildSlice w 113 246 1 _ (recV r) ((Tryz.prog.info? 246).get (by kernel_rfl)) (((Tryz.prog.info? 246).get (by kernel_rfl)).zero.get (by kernel_rfl)) (by kernel_rfl) (by kernel_rfl) (by kernel_rfl) (by decide +kernel) (by decide +kernel) (by kernel_rfl)
section calls
variable {w:World} {p:Option Addr} {l c:Nat} {xs:List Int} {R:Value→World→Prop}
theorem c_Scan (h:SlL byLay w p l xs) (hlm:l≤1000000) (hlc:l≤c) (hby:By xs)
  (hK:∀ p' c' w',OwnL rLay w' w.heap.size 246 p' (scanB xs).length c' (scanB xs)→Keep (fun _=>False) w w'→R (.tuple #[.slice p' (scanB xs).length c',.int .i64 (37*((scanB xs).length:Int))]) w'):zB Tryz.prog 136 #[.slice p l c] w R:=by
 apply C_codec_Scan
 unfold F_codec_Scan
 have hlen:=h.1
 generalize hq:w.heap.size=q at *
 refine LoopC_of (σ:=(Option Addr×Nat×Nat)×Int×Unit) (fun st w'=>∃ (k:Nat) (rs:List Rec),st.2.1=((37*k:Nat):Int)∧37*k≤l∧rs.length=k∧st.1.2.1=k∧OwnL rLay w' q 246 st.1.1 k st.1.2.2 rs∧scanB xs=rs++scanF (l+1-k) (xs.drop (37*k))∧Keep (fun k=>q≤k) w w')
  (fun st _=>(l-st.2.1).toNat) ⟨0,[],rfl,by omega,rfl,rfl,OwnL.nil,by unfold scanB;rw [← hlen];rfl,Keep.refl _ _⟩ ?_
 rintro _ ⟨⟨p1,l1,c1⟩,i1,u⟩ w1 ⟨k,rs,hi,hk,hrl,hl1,o1,hsc,k1⟩
 simp only at hi hl1 o1 ⊢
 subst hi hl1
 have k01:Keep (fun _=>False) w w1:=⟨k1.os,k1.tape,k1.output,k1.size,fun j hj _=>k1.block j hj (by omega)⟩
 have h1:=h.keepB k01 (by simp)
 refine Slc_from hk hlc ?_
 have hs:=h1.sub (lo:=37*l1) (hi:=l) (m:=c) hk (Nat.le_refl _) hlc
 rw [List.take_of_length_le (by omega)] at hs
 have hby2:By (xs.drop (37*l1)):=fun x hx=>hby x (List.mem_of_mem_drop hx)
 have hdl:(xs.drop (37*l1)).length=l-37*l1:=by rw [List.length_drop];omega
 have hfuel:l+1-l1=(l-l1)+1:=by omega
 rw [hfuel] at hsc
 have stop:∀ w',Keep (fun _=>False) w1 w'→¬ (37≤(xs.drop (37*l1)).length∧unGood (xs.drop (37*l1)))→R (.tuple #[.slice p1 l1 c1,.int .i64 ((37*l1:Nat):Int)]) w':=by
  intro w' k2 hn
  have e:scanB xs=rs:=by
   rw [hsc]
   unfold scanF
   rw [if_neg hn,List.append_nil]
  have:=hK p1 c1 w' (by rw [e,hrl];exact o1.keep k2 (by simp)) (k01.trans k2)
  rw [e,hrl] at this
  have e2:(37*(l1:Int))=((37*l1:Nat):Int):=by omega
  rw [e2] at this
  exact this
 by_cases h37:37≤l-37*l1
 ·refine c_Unpack hs h37 (by omega) (by omega) hby2 fun g w2 hg k2=>?_
  refine T2_mk.2 (OpA_agg.2 ⟨rfl,zA.2 ?_⟩)
  refine copy_of zc_rc rfl (one_recV _) fun w3 h3 k3 z3=>?_
  have k13:=k2.trans k3
  cases g
  ·refine (Cb_true (q:=_)).2 (Ret_nil.2 (stop w3 k13 fun hn=>?_))
   have:=hg.2 hn.2
   cases this
  ·have hgood:=hg.1 rfl
   refine (Cb_false (p:=_)).2 ?_
   refine LdA_all h3 rfl ?_
   refine ⟨_,_,bsl_r1 (unB (xs.drop (37*l1))) w3,zC.2 ?_⟩
   have k4:Keep (fun _=>False) w3 (w3.alloc (.cells (recV (unB (xs.drop (37*l1)))) 246)):=Keep.new _ _ _
   have h4:Has (w3.alloc (.cells (recV (unB (xs.drop (37*l1)))) 246)) w3.heap.size (.cells (recV (unB (xs.drop (37*l1)))) 246 (0,0)):=Has.new _ _
   generalize w3.alloc (.cells (recV (unB (xs.drop (37*l1)))) 246)=w4 at *
   have k14:=k13.trans k4
   have hq4:q≤w4.heap.size:=by have:=k1.size;have:=k14.size;omega
   obtain ⟨p5,c5,w5,hr,o5,k5,_⟩:=run_appendF1 rLayT (o1.keep k14 (by simp)) (y:=unB (xs.drop (37*l1))) h4 rfl (ty:=113) (by omega) (by simp only [maxLen];omega) hq4 (c2:=1)
   refine ⟨_,_,hr,zC.2 ?_⟩
   have ew:IntKind.wrap .i64 (((37*l1:Nat):Int)+37)=((37*(l1+1):Nat):Int):=by rw [wrapI (by omega) (by omega)];omega
   refine ⟨_,by show ((l:Int)-IntKind.wrap .i64 (((37*l1:Nat):Int)+37)).toNat<_;rw [ew];omega,⟨l1+1,rs++[unB (xs.drop (37*l1))],ew,by omega,by simp [hrl],rfl,o5,?_,(k1.trans (k14.mono (by simp))).trans (k5.mono fun k hk=>(o1.lt hk).1)⟩,rfl⟩
   rw [hsc]
   have e:scanF (l-l1+1) (xs.drop (37*l1))=unB (xs.drop (37*l1))::scanF (l-l1) ((xs.drop (37*l1)).drop 37):=by
    show (if _ then _ else _)=_
    rw [if_pos ⟨by omega,hgood⟩]
   rw [e,List.drop_drop,show l+1-(l1+1)=l-l1 by omega,show 37*(l1+1)=37*l1+37 by omega]
   simp
 ·refine c_Unpack_short hs (by omega) fun w2 k2=>?_
  refine T2_mk.2 (OpA_agg.2 ⟨rfl,zA.2 ?_⟩)
  refine copy_of zc_rc rfl (one_recV _) fun w3 h3 k3 z3=>?_
  refine (Cb_true (q:=_)).2 (Ret_nil.2 (stop w3 (k2.trans k3) fun hn=>?_))
  omega
end calls
theorem or_u64 {a b:Nat} (ha:a<2 ^ 56) (hb:b<256):ibits .or .u64 (ishl .u64 (a:Int) 8) (IntKind.wrap .u64 (b:Int))=((a*256+b:Nat):Int):=by
 have e1:ishl .u64 (a:Int) 8=((a*256:Nat):Int):=by
  unfold ishl
  show IntKind.wrap .u64 ((a:Int)*2 ^ (min 8 64))=_
  have:((a:Int)*2 ^ (min 8 64))=((a*256:Nat):Int):=by simp
  rw [this,wrapU64 (by omega) (by omega)]
 have e2:IntKind.wrap .u64 (b:Int)=(b:Int):=wrapU64 (by omega) (by omega)
 rw [e1,e2]
 show IntKind.wrap .u64 ((BitVec.ofInt 64 _ ||| BitVec.ofInt 64 _).toNat:Int)=_
 have o:∀ n:Nat,BitVec.ofInt 64 (n:Int)=BitVec.ofNat 64 n:=fun n=>by simp
 rw [o,o,BitVec.toNat_or,BitVec.toNat_ofNat,BitVec.toNat_ofNat,Nat.mod_eq_of_lt (by omega),Nat.mod_eq_of_lt (by omega)]
 have:a*256 ||| b=a*256+b:=by
  have:=Nat.shiftLeft_add_eq_or_of_lt (show b<2 ^ 8 by omega) a
  rw [Nat.shiftLeft_eq] at this
  exact this.symm
 rw [this,wrapU64 (by omega) (by omega)]
theorem byte_of {n i:Nat} (hi:i<8):IntKind.wrap .u8 (ishr .u64 (n:Int) (8*(i:Int)))=((n / 256 ^ i % 256:Nat):Int):=by
 have e:ishr .u64 (n:Int) (8*(i:Int))=((n / 256 ^ i:Nat):Int):=by
  unfold ishr
  show Int.fdiv (n:Int) (2 ^ (min (8*(i:Int)).toNat 64))=_
  rw [show (8*(i:Int)).toNat=8*i by omega,Nat.min_eq_left (by omega)]
  have e2:(2:Int) ^ (8*i)=((256 ^ i:Nat):Int):=by
   rw [Int.pow_mul];simp
  rw [e2]
  generalize 256 ^ i=p
  rw [Int.fdiv_eq_ediv_of_nonneg _ (by omega)]
  exact (Int.natCast_ediv n p).symm
 rw [e]
 generalize n / 256 ^ i=q
 simp [IntKind.wrap,IntKind.signed,IntKind.bits]
theorem fold_low (n:Nat):∀ i,i≤8→∀ a:Nat,a*256 ^ i<2 ^ 64→(lowB (n:Int) i).foldl (fun a b=>ibits .or .u64 (ishl .u64 a 8) (IntKind.wrap .u64 b)) (a:Int)=((a*256 ^ i+n % 256 ^ i:Nat):Int)
 | 0,_,a,_=>by simp [lowB,Nat.mod_one]
 | i+1,hi,a,ha=>by
  unfold lowB
  rw [List.foldl_cons,byte_of (by omega)]
  have hp:0<256 ^ i:=Nat.pow_pos (by decide)
  have hm:n / 256 ^ i % 256<256:=Nat.mod_lt _ (by decide)
  have ha':a<2 ^ 56:=by
   have h1:a*256≤a*256 ^ (i+1):=by
    rw [Nat.pow_succ]
    exact Nat.mul_le_mul_left _ (by omega)
   omega
  rw [or_u64 ha' hm,fold_low n i (by omega)]
  ·congr 1
   rw [Nat.pow_succ,Nat.mod_mul,Nat.add_mul,Nat.mul_assoc,Nat.mul_comm 256 (256 ^ i)]
   generalize n / 256 ^ i % 256=q
   rw [Nat.mul_comm q]
   omega
  ·have e8:(2:Nat) ^ 64=256 ^ (7-i)*256 ^ (i+1):=by
    rw [← Nat.pow_add,show 7-i+(i+1)=8 by omega]
   rw [e8] at ha ⊢
   have hlt:a<256 ^ (7-i):=Nat.lt_of_mul_lt_mul_right ha
   have h1:(a*256+n / 256 ^ i % 256)*256 ^ i<(a+1)*256*256 ^ i:=by
    refine Nat.mul_lt_mul_of_pos_right ?_ hp
    omega
   have h2:(a+1)*256*256 ^ i=(a+1)*256 ^ (i+1):=by rw [Nat.pow_succ,Nat.mul_assoc,Nat.mul_comm 256]
   have h3:(a+1)*256 ^ (i+1)≤256 ^ (7-i)*256 ^ (i+1):=Nat.mul_le_mul_right _ hlt
   omega
theorem read_low {n:Nat} (hn:n<2 ^ 64):readB (lowB (n:Int) 8)=(n:Int):=by
 have h:=fold_low n 8 (Nat.le_refl _) 0 (by decide)
 have e:(256:Nat) ^ 8=2 ^ 64:=by decide
 have h:readB (lowB (n:Int) 8)=((0*256 ^ 8+n % 256 ^ 8:Nat):Int):=h
 rw [h,e,Nat.zero_mul,Nat.zero_add,Nat.mod_eq_of_lt hn]
theorem un_pack {r:Rec} (hg:recGood r=true) (hv:0≤r.ver∧r.ver≤18446744073709551615) (hs:SecOk r.data) (t:List Int):unB (packB r++t)=r:=by
 unfold recGood at hg
 simp only [Bool.and_eq_true,decide_eq_true_eq] at hg
 obtain ⟨⟨⟨h1,h2⟩,h3⟩,h4⟩:=hg
 obtain ⟨kind,ver,lba,data⟩:=r
 simp only at h1 h2 h3 h4 hv hs
 have ek:IntKind.wrap .u8 kind=kind:=wrapU8 (by omega) (by omega)
 have el:IntKind.wrap .u64 lba=lba:=wrapU64 (by omega) (by omega)
 have hb:∃ t',packB ⟨kind,ver,lba,data⟩++t=kind::(lowB ver 8++(lowB lba 8++(secB data++t'))):=by
  refine ⟨lowB (IntKind.wrap .u64 (crcS (bareB ⟨kind,ver,lba,data⟩))) 4++t,?_⟩
  unfold packB sealB
  have:bareB ⟨kind,ver,lba,data⟩=kind::(lowB ver 8++lowB lba 8++secB data):=by unfold bareB;rw [ek,el]
  rw [this]
  simp
 obtain ⟨t',hb⟩:=hb
 rw [hb]
 unfold unB
 have hver:readB ((((kind::(lowB ver 8++(lowB lba 8++(secB data++t')))).take 9).drop 1))=ver:=by
  have:(((kind::(lowB ver 8++(lowB lba 8++(secB data++t')))).take 9).drop 1)=lowB ver 8:=by
   rw [List.take_succ_cons,List.drop_succ_cons,List.drop_zero,List.take_left' (by simp)]
  rw [this]
  have:=read_low (n:=ver.toNat) (by omega)
  rw [show ((ver.toNat:Nat):Int)=ver by omega] at this
  exact this
 have hlba:readB ((((kind::(lowB ver 8++(lowB lba 8++(secB data++t')))).take 17).drop 9))=lba:=by
  have:(((kind::(lowB ver 8++(lowB lba 8++(secB data++t')))).take 17).drop 9)=lowB lba 8:=by
   rw [List.take_succ_cons,List.drop_succ_cons,List.take_append,List.take_of_length_le (by simp),len_lowB,show 16-8=8 from rfl,List.drop_left' (by simp),List.take_left' (by simp)]
  rw [this]
  have:=read_low (n:=lba.toNat) (by omega)
  rw [show ((lba.toNat:Nat):Int)=lba by omega] at this
  exact this
 rw [hver,hlba]
 have e1:IntKind.wrap .i64 ((kind::(lowB ver 8++(lowB lba 8++(secB data++t')))).getD 0 0)=kind:=by
  show IntKind.wrap .i64 kind=kind
  exact wrapI (by omega) (by omega)
 have e2:IntKind.wrap .i64 lba=lba:=wrapI (by omega) (by omega)
 rw [e1,e2]
 congr 1
 funext k
 match k with
 | ⟨0,_⟩=>rfl | ⟨1,_⟩=>rfl | ⟨2,_⟩=>rfl | ⟨3,_⟩=>rfl | ⟨4,_⟩=>rfl | ⟨5,_⟩=>rfl | ⟨6,_⟩=>rfl | ⟨7,_⟩=>rfl
 | ⟨8,_⟩=>rfl | ⟨9,_⟩=>rfl | ⟨10,_⟩=>rfl | ⟨11,_⟩=>rfl | ⟨12,_⟩=>rfl | ⟨13,_⟩=>rfl | ⟨14,_⟩=>rfl | ⟨15,_⟩=>rfl
 | ⟨n+16,hn⟩=>exact absurd hn (by omega)
theorem un_good {r:Rec} (hg:recGood r=true) (hv:0≤r.ver∧r.ver≤18446744073709551615) (hs:SecOk r.data) (t:List Int):unGood (packB r++t):=by
 unfold unGood
 rw [un_pack hg hv hs]
 exact ⟨hg,by rw [List.take_left' (by simp)]⟩
theorem scan_packs:∀ (rs:List Rec) (t:List Int) (n:Nat),(∀ r∈rs,recGood r=true∧(0≤r.ver∧r.ver≤18446744073709551615)∧SecOk r.data)→t.length<37→rs.length<n→scanF n (rs.flatMap packB++t)=rs
 | [],t,n+1,_,ht,_=>by
  show (if _ then _ else _)=_
  rw [if_neg (by simp;omega)]
 | r::rs,t,n+1,h,ht,hn=>by
  obtain ⟨h1,h2,h3⟩:=h r (by simp)
  have e:(r::rs).flatMap packB++t=packB r++(rs.flatMap packB++t):=by simp
  rw [e]
  show (if _ then _ else _)=_
  rw [if_pos ⟨by rw [List.length_append,len_packB];omega,un_good h1 h2 h3 _⟩,un_pack h1 h2 h3,List.drop_left' (by simp),scan_packs rs t n (fun x hx=>h x (by simp [hx])) ht (by simp at hn;omega)]
 | _,_,0,_,_,h=>by simp at h
end Go.Proofs
namespace Go.Proofs
open Go.Ev
set_option maxRecDepth 100000
def F_BLoad (x:Nat) (o:Nat) (w:World) (R:Value→World→Prop):Prop :=
 DoN Tryz.prog (callFunc 197 #[.pointer (some ⟨x,o,none⟩)]) w fun v w=>OpI .u32 v fun n=>Ret [] (R (.bool (n !=0)) w)
theorem C_BLoad {x:Nat} {o:Nat} {w:World} {R:Value→World→Prop} (h:F_BLoad x o w R):zB Tryz.prog 126 #[.pointer (some ⟨x,o,none⟩)] w R:=by
 exact zE (args:=[.pointer (some ⟨x,o,none⟩)]) (mkAnn [] [] [] [] []) zD Tryz.func126 rfl rfl (by kernel_rfl) h
def F_BStore (x:Nat) (o:Nat) (v:Bool) (w:World) (R:Value→World→Prop):Prop :=
 HeldR w fun S w=>zB Tryz.prog 206 #[.bool v] w fun v1 w=>OpI .u32 v1 fun n=>Hld (S w) (DoN Tryz.prog (callFunc 205 #[.pointer (some ⟨x,o,none⟩),.int .u32 n]) w
 fun v2 w=>Hld (S w) (Ret [] (R (.tuple #[]) w)))
theorem C_BStore {x:Nat} {o:Nat} {v:Bool} {w:World} {R:Value→World→Prop} (h:F_BStore x o v w R):zB Tryz.prog 135 #[.pointer (some ⟨x,o,none⟩),.bool v] w R:=by
 exact zE (args:=[.pointer (some ⟨x,o,none⟩),.bool v]) (mkAnn [] [] [] [] [9]) zD Tryz.func135 rfl rfl (by kernel_rfl) h
def F_ILoad (x:Nat) (o:Nat) (w:World) (R:Value→World→Prop):Prop :=
 DoN Tryz.prog (callFunc 198 #[.pointer (some ⟨x,o,none⟩)]) w fun v w=>OpI .i64 v fun n=>Ret [] (R (.int .i64 n) w)
theorem C_ILoad {x:Nat} {o:Nat} {w:World} {R:Value→World→Prop} (h:F_ILoad x o w R):zB Tryz.prog 127 #[.pointer (some ⟨x,o,none⟩)] w R:=by
 exact zE (args:=[.pointer (some ⟨x,o,none⟩)]) (mkAnn [] [] [] [] []) zD Tryz.func127 rfl rfl (by kernel_rfl) h
def F_IStore (x:Nat) (o:Nat) (v:Int) (w:World) (R:Value→World→Prop):Prop :=
 DoN Tryz.prog (callFunc 204 #[.pointer (some ⟨x,o,none⟩),.int .i64 v]) w fun v1 w=>Ret [] (R (.tuple #[]) w)
theorem C_IStore {x:Nat} {o:Nat} {v:Int} {w:World} {R:Value→World→Prop} (h:F_IStore x o v w R):zB Tryz.prog 134 #[.pointer (some ⟨x,o,none⟩),.int .i64 v] w R:=by
 exact zE (args:=[.pointer (some ⟨x,o,none⟩),.int .i64 v]) (mkAnn [] [] [] [] []) zD Tryz.func134 rfl rfl (by kernel_rfl) h
def F_IAdd (x:Nat) (o:Nat) (d:Int) (w:World) (R:Value→World→Prop):Prop :=
 DoN Tryz.prog (callFunc 273 #[.pointer (some ⟨x,o,none⟩),.int .i64 d]) w fun v w=>OpI .i64 v fun n=>Ret [] (R (.int .i64 n) w)
theorem C_IAdd {x:Nat} {o:Nat} {d:Int} {w:World} {R:Value→World→Prop} (h:F_IAdd x o d w R):zB Tryz.prog 247 #[.pointer (some ⟨x,o,none⟩),.int .i64 d] w R:=by
 exact zE (args:=[.pointer (some ⟨x,o,none⟩),.int .i64 d]) (mkAnn [] [] [] [] []) zD Tryz.func247 rfl rfl (by kernel_rfl) h
def F_atomic_b32 (b:Bool) (w:World) (R:Value→World→Prop):Prop :=
 Cb b (Ret [] (R (.int .u32 1) w)) (Ret [] (R (.int .u32 0) w))
theorem C_atomic_b32 {b:Bool} {w:World} {R:Value→World→Prop} (h:F_atomic_b32 b w R):zB Tryz.prog 206 #[.bool b] w R:=by
 exact zE (args:=[.bool b]) (mkAnn [] [] [] [] []) zD Tryz.func206 rfl rfl (by kernel_rfl) h
def F_disk_NewMains  (w:World) (R:Value→World→Prop):Prop :=
 DoQ Tryz.prog (Instr.build 209 #[]) (At w) fun v=>OpA 3 v fun cs=>Alc 209 cs w fun b w=>Ret [] (R (.pointer (some ⟨b,0,none⟩)) w)
theorem C_disk_NewMains  {w:World} {R:Value→World→Prop} (h:F_disk_NewMains  w R):zB Tryz.prog 52 #[] w R:=by
 exact zE (args:=[]) (mkAnn [] [] [] [] []) zD Tryz.func52 rfl rfl (by kernel_rfl) h
def F_disk_Mains_Restore (m:Nat) (w:World) (R:Value→World→Prop):Prop :=
 zB Tryz.prog 135 #[.pointer (some ⟨m,0,none⟩),.bool false] w fun v w=>zB Tryz.prog 134 #[.pointer (some ⟨m,1,none⟩),.int .i64 0] w fun v1 w=>Ret [] (R
 (.tuple #[]) w)
theorem C_disk_Mains_Restore {m:Nat} {w:World} {R:Value→World→Prop} (h:F_disk_Mains_Restore m w R):zB Tryz.prog 60 #[.pointer (some ⟨m,0,none⟩)] w R:=by
 exact zE (args:=[.pointer (some ⟨m,0,none⟩)]) (mkAnn [] [] [] [] []) zD Tryz.func60 rfl rfl (by kernel_rfl) h
def F_disk_Mains_On (m:Nat) (w:World) (R:Value→World→Prop):Prop :=
 zB Tryz.prog 126 #[.pointer (some ⟨m,0,none⟩)] w fun v w=>OpB v fun g=>Ret [] (R (.bool (!g)) w)
theorem C_disk_Mains_On {m:Nat} {w:World} {R:Value→World→Prop} (h:F_disk_Mains_On m w R):zB Tryz.prog 44 #[.pointer (some ⟨m,0,none⟩)] w R:=by
 exact zE (args:=[.pointer (some ⟨m,0,none⟩)]) (mkAnn [] [] [] [] []) zD Tryz.func44 rfl rfl (by kernel_rfl) h
def F_disk_Mains_Step (m:Nat) (w:World) (R:Value→World→Prop):Prop :=
 zB Tryz.prog 44 #[.pointer (some ⟨m,0,none⟩)] w fun v w=>OpB v fun g=>Cb (!g) (Ret [] (R (.bool false) w)) (zB Tryz.prog 127 #[.pointer (some ⟨m,1,none⟩)] w
 fun v1 w=>OpI .i64 v1 fun n=>Cb (n==0) (zB Tryz.prog 247 #[.pointer (some ⟨m,2,none⟩),.int .i64 1] w fun v2 w=>OpI .i64 v2 fun n1=>Ret [] (R (.bool true)
 w)) (Cb (n==1) (zB Tryz.prog 134 #[.pointer (some ⟨m,1,none⟩),.int .i64 0] w fun v3 w=>zB Tryz.prog 135 #[.pointer (some ⟨m,0,none⟩),.bool true] w fun v4 w
 => Ret [] (R (.bool false) w)) (zB Tryz.prog 134 #[.pointer (some ⟨m,1,none⟩),.int .i64 (IntKind.wrap .i64 (n-1))] w fun v5 w=>zB Tryz.prog 247 #[.pointer
 (some ⟨m,2,none⟩),.int .i64 1] w fun v6 w=>OpI .i64 v6 fun n2=>Ret [] (R (.bool true) w))))
theorem C_disk_Mains_Step {m:Nat} {w:World} {R:Value→World→Prop} (h:F_disk_Mains_Step m w R):zB Tryz.prog 195 #[.pointer (some ⟨m,0,none⟩)] w R:=by
 exact zE (args:=[.pointer (some ⟨m,0,none⟩)]) (mkAnn [] [] [] [] []) zD Tryz.func195 rfl rfl (by kernel_rfl) h
end Go.Proofs
namespace Go.Proofs
open Go Go.Ev
set_option maxRecDepth 100000
section atomic
variable {w:World} {b o:Nat} {c:Array Value} {t:TypeId} {R:Value→World→Prop}
theorem run_aload {k:IntKind} {v:Int} (hc:w.cell? ⟨b,o,none⟩=some (.int k v)):(Extern.Atomic.loadT (.int k) #[.pointer (some ⟨b,o,none⟩)]).run Tryz.prog w=.ok (.int k v) w:=by
 change Sem.run Tryz.prog (do
  let a' ← asAddr (.pointer (some ⟨b,o,none⟩))
  Extern.Atomic.read (.int k) a') w=_
 simp [Extern.Atomic.read,asAddr,hc,Result.andThen]
theorem run_astore {k k':IntKind} {u v:Int} (hc:w.cell? ⟨b,o,none⟩=some (.int k' u)) (hz:w.frozen? ⟨b,o,none⟩=false):(Extern.Atomic.storeT #[.pointer (some ⟨b,o,none⟩),.int k v]).run Tryz.prog w=.ok (.tuple #[]) (w.setCell ⟨b,o,none⟩ (.int k v)):=by
 change Sem.run Tryz.prog (do
  let a' ← asAddr (.pointer (some ⟨b,o,none⟩))
  store a' (.int k v) .atomic
  pure Extern.Atomic.none_) w=_
 simp [asAddr,hc,hz,run_store Tryz.prog w ⟨b,o,none⟩ (.int k v) .atomic rfl,Result.andThen,Extern.Atomic.none_]
theorem a_BLoad {v:Int} (h:Has w b (.cells c t (0,0))) (hv:c[o]? = some (.int .u32 v)) (hK:R (.bool (v !=0)) w):zB Tryz.prog 126 #[.pointer (some ⟨b,o,none⟩)] w R:=by
 apply C_BLoad
 unfold F_BLoad
 refine ⟨.int .u32 v,w,?_,?_⟩
 ·rw [run_callFunc_extern Tryz.func197 (by kernel_rfl) (by kernel_rfl) (by kernel_rfl) (e:=Extern.Atomic.loadT (.int .u32)) (by kernel_rfl),run_aload (by rw [cell_of h];exact hv)]
  rfl
 ·exact zA.2 (Ret_nil.2 hK)
theorem a_ILoad {v:Int} (h:Has w b (.cells c t (0,0))) (hv:c[o]? = some (.int .i64 v)) (hK:R (.int .i64 v) w):zB Tryz.prog 127 #[.pointer (some ⟨b,o,none⟩)] w R:=by
 apply C_ILoad
 unfold F_ILoad
 refine ⟨.int .i64 v,w,?_,?_⟩
 ·rw [run_callFunc_extern Tryz.func198 (by kernel_rfl) (by kernel_rfl) (by kernel_rfl) (e:=Extern.Atomic.loadT (.int .i64)) (by kernel_rfl),run_aload (by rw [cell_of h];exact hv)]
  rfl
 ·exact zA.2 (Ret_nil.2 hK)
theorem a_IStore {u v:Int} (h:Has w b (.cells c t (0,0))) (hv:c[o]? = some (.int .i64 u)) (hK:R (.tuple #[]) (w.upd b (.cells (c.setIfInBounds o (.int .i64 v)) t (0,0)))):zB Tryz.prog 134 #[.pointer (some ⟨b,o,none⟩),.int .i64 v] w R:=by
 apply C_IStore
 unfold F_IStore
 refine ⟨.tuple #[],_,?_,Ret_nil.2 hK⟩
 rw [run_callFunc_extern Tryz.func204 (by kernel_rfl) (by kernel_rfl) (by kernel_rfl) (e:=Extern.Atomic.storeT) (by kernel_rfl),run_astore (u:=u) (k':=.i64) (by rw [cell_of h];exact hv) (frozen_of h),setCell_upd h]
 rfl
theorem a_BStore {u:Int} {v:Bool} (h:Has w b (.cells c t (0,0))) (hv:c[o]? = some (.int .u32 u)) (hK:∀ d,R (.tuple #[]) ((w.dr d).upd b (.cells (c.setIfInBounds o (.int .u32 (if v=true then 1 else 0))) t (0,0)))):zB Tryz.prog 135 #[.pointer (some ⟨b,o,none⟩),.bool v] w R:=by
 apply C_BStore
 unfold F_BStore
 intro d
 refine ⟨fun _=>True,trivial,?_⟩
 apply C_atomic_b32
 unfold F_atomic_b32
 have go:∀ n:Int,n=(if v=true then 1 else 0)→OpI .u32 (.int .u32 n) fun n=>Hld True (DoN Tryz.prog (callFunc 205 #[.pointer (some ⟨b,o,none⟩),.int .u32 n]) (w.dr d) fun v1 w=>Hld True (Ret [] (R (.tuple #[]) w))):=by
  intro n hn
  refine zA.2 ⟨trivial,.tuple #[],_,?_,trivial,Ret_nil.2 (hK d)⟩
  rw [run_callFunc_extern Tryz.func205 (by kernel_rfl) (by kernel_rfl) (by kernel_rfl) (e:=Extern.Atomic.storeT) (by kernel_rfl),run_astore (u:=u) (k':=.u32) (by rw [cell_of (h.dr d)];exact hv) (frozen_of (h.dr d)),setCell_upd (h.dr d),hn]
  rfl
 refine Cb_of (fun hc=>Ret_nil.2 (go 1 (by rw [hc];rfl))) (fun hc=>Ret_nil.2 (go 0 (by rw [hc];rfl)))
theorem a_IAdd {u v:Int} (h:Has w b (.cells c t (0,0))) (hv:c[o]? = some (.int .i64 u)) (hK:R (.int .i64 (IntKind.wrap .i64 (u+v))) (w.upd b (.cells (c.setIfInBounds o (.int .i64 (IntKind.wrap .i64 (u+v)))) t (0,0)))):zB Tryz.prog 247 #[.pointer (some ⟨b,o,none⟩),.int .i64 v] w R:=by
 apply C_IAdd
 unfold F_IAdd
 refine ⟨.int .i64 (IntKind.wrap .i64 (u+v)),_,?_,zA.2 (Ret_nil.2 hK)⟩
 rw [run_callFunc_extern Tryz.func273 (by kernel_rfl) (by kernel_rfl) (by kernel_rfl) (e:=Extern.Atomic.update (Op.intArith .add) .i64 true) (by kernel_rfl),Conc.run_add_entry (by rw [cell_of h];exact hv) (frozen_of h),setCell_upd h]
 rfl
end atomic
structure Pow where
 on:Bool
 left:Int
 steps:Int
def maC (p:Pow):Array Value:=#[.int .u32 (if p.on=true then 0 else 1),.int .i64 p.left,.int .i64 p.steps]
def MaAt (w:World) (m:Nat) (p:Pow):Prop:=Has w m (.cells (maC p) 209 (0,0))
def stepP (p:Pow):Bool×Pow :=
 if p.on=true then (if p.left=0 then (true,{ p with steps:=IntKind.wrap .i64 (p.steps+1) }) else if p.left=1 then (false,{ p with on:=false,left:=0 })
  else (true,{ p with left:=IntKind.wrap .i64 (p.left-1),steps:=IntKind.wrap .i64 (p.steps+1) })) else (false,p)
section mains
variable {w:World} {m:Nat} {p:Pow} {R:Value→World→Prop}
theorem ma_On (h:MaAt w m p) (hK:R (.bool p.on) w):zB Tryz.prog 44 #[.pointer (some ⟨m,0,none⟩)] w R:=by
 apply C_disk_Mains_On
 unfold F_disk_Mains_On
 refine a_BLoad h rfl ?_
 rw [OpB_bool,Ret_nil]
 have:(!((if p.on=true then (0:Int) else 1)!=0))=p.on:=by cases p.on <;> rfl
 rw [this];exact hK
theorem ma_Step (h:MaAt w m p) (hK:∀ w',MaAt w' m (stepP p).2→Keep (fun k=>k=m) w w'→w'.heap.size=w.heap.size→R (.bool (stepP p).1) w'):zB Tryz.prog 195 #[.pointer (some ⟨m,0,none⟩)] w R:=by
 apply C_disk_Mains_Step
 unfold F_disk_Mains_Step
 refine ma_On h ?_
 refine OpB_bool.2 ?_
 obtain ⟨on,left,steps⟩:=p
 cases on
 ·refine (Cb_true (q:=_)).2 ?_
  exact Ret_nil.2 (hK w h (Keep.refl _ _) rfl)
 ·refine (Cb_false (p:=_)).2 ?_
  refine a_ILoad h rfl ?_
  refine zA.2 ?_
  refine Cb_of (fun h0=>?_) (fun h0=>?_)
  ·have h0:left=0:=by simpa using h0
   subst h0
   refine a_IAdd h rfl ?_
   exact zA.2 (Ret_nil.2 (hK _ (h.upd_same _) (Keep.one _ _ _) (by simp)))
  ·have h0:left≠0:=by simpa using h0
   refine Cb_of (fun h1=>?_) (fun h1=>?_)
   ·have h1:left=1:=by simpa using h1
    subst h1
    refine a_IStore h rfl ?_
    refine a_BStore (h.upd_same _) rfl fun d=>?_
    refine Ret_nil.2 (hK _ ?_ ?_ (by simp))
    ·exact ((h.upd_same _).dr d).upd_same _
    ·exact (((Keep.one w m _).dr d).upd (fun _=>rfl) _)
   ·have h1:left≠1:=by simpa using h1
    have e:stepP ⟨true,left,steps⟩=(true,⟨true,IntKind.wrap .i64 (left-1),IntKind.wrap .i64 (steps+1)⟩):=by
     unfold stepP
     rw [if_pos rfl,if_neg h0,if_neg h1]
    rw [e] at hK
    refine a_IStore h rfl ?_
    refine a_IAdd (h.upd_same _) rfl ?_
    refine zA.2 (Ret_nil.2 (hK _ ?_ ?_ (by simp)))
    ·exact (h.upd_same _).upd_same _
    ·exact (Keep.one w m _).upd (fun _=>rfl) _
theorem ma_Restore (h:MaAt w m p) (hK:∀ w',MaAt w' m ⟨true,0,p.steps⟩→Keep (fun k=>k=m) w w'→w'.heap.size=w.heap.size→R (.tuple #[]) w'):zB Tryz.prog 60 #[.pointer (some ⟨m,0,none⟩)] w R:=by
 apply C_disk_Mains_Restore
 unfold F_disk_Mains_Restore
 obtain ⟨on,left,steps⟩:=p
 refine a_BStore h rfl fun d=>?_
 refine a_IStore ((h.dr d).upd_same _) rfl ?_
 refine Ret_nil.2 (hK _ ?_ ?_ (by simp))
 ·exact ((h.dr d).upd_same _).upd_same _
 ·exact (((Keep.refl (fun k=>k=m) w).dr d).upd (fun _=>rfl) _).upd (fun _=>rfl) _
theorem ma_New (hK:∀ b w',b=w.heap.size→MaAt w' b ⟨true,0,0⟩→Keep (fun _=>False) w w'→w'.heap.size=w.heap.size+1→R (.pointer (some ⟨b,0,none⟩)) w'):zB Tryz.prog 52 #[] w R:=by
 apply C_disk_NewMains
 unfold F_disk_NewMains
 refine DoQ_of (v:=.agg (maC ⟨true,0,0⟩)) (fun d=>run_build _ _ _ _ (by kernel_rfl)) ?_
 refine OpA_agg.2 ⟨rfl,?_⟩
 rw [Alc_iff]
 exact Ret_nil.2 (hK _ _ rfl (Has.new _ _) (Keep.new _ _ _) (by simp))
end mains
end Go.Proofs
namespace Go.Proofs
open Go.Ev
set_option maxRecDepth 100000
def F_nvram_New (size:Int) (m:Nat) (w:World) (R:Value→World→Prop):Prop :=
 Req ((decide (size<37))=(decide (size<37))) (Req ((decide (size<37))=(decide (size<37))) (Req ((cond (decide (size<37)) true (decide (size>65536)))=(cond
 (decide (size<37)) true (decide (size>65536)))) (Req ((cond (decide (size<37)) true (decide (size>65536)))=(cond (decide (size<37)) true (decide (size >
 65536)))) (Cb (cond (cond (decide (size<37)) true (decide (size>65536))) true false) (Ret [] (R (.tuple #[.pointer none,.int .i64 2]) w)) (DoQ Tryz.prog (Instr.build
 214 #[(0,.pointer (some ⟨m,0,none⟩)),(1,.int .i64 size)]) (At w) fun v=>OpA 3 v fun cs=>Alc 214 cs w fun b w=>Ret [] (R (.tuple #[.pointer (some ⟨b,0,none⟩),
 .int .i64 0]) w))))))
theorem C_nvram_New {size:Int} {m:Nat} {w:World} {R:Value→World→Prop} (h:F_nvram_New size m w R):zB Tryz.prog 54 #[.int .i64 size,.pointer (some ⟨m,0,none⟩)] w R:=by
 exact zE (args:=[.int .i64 size,.pointer (some ⟨m,0,none⟩)]) (mkAnn [] [] [] [] []) zD Tryz.func54 rfl rfl (by kernel_rfl) h
def F_nvram_Ram_Append (r:Nat) (x:Array Value) (w:World) (R:Value→World→Prop):Prop :=
 Alc 246 x w fun b w=>LdA 19 b 0 (At w) fun cs=>zB Tryz.prog 230 #[.agg cs] w fun v w=>T2 v fun v1 v2=>OpS v1 fun p l c=>OpI .i64 v2 fun n=>Cb (n !=0) (Ret
 [] (R (.int .i64 n) w)) (LdV r 0 (At w) fun v3=>OpN v3 fun b1 o=>zB Tryz.prog 44 #[.pointer (some ⟨b1,o,none⟩)] w fun v4 w=>OpB v4 fun g=>Cb (!g) (Ret [] (R
 (.int .i64 4) w)) (zB Tryz.prog 221 #[.pointer (some ⟨r,0,none⟩)] w fun v5 w=>OpI .i64 v5 fun n1=>Cb (decide (n1<1)) (Ret [] (R (.int .i64 9) w)) (LdV r 0 (At
 w) fun v6=>OpN v6 fun b2 o1=>zB Tryz.prog 195 #[.pointer (some ⟨b2,o1,none⟩)] w fun v7 w=>OpB v7 fun g1=>Cb (!g1) (HeldR w fun S w=>LdV r 2 (At w) fun v8 =>
 OpS v8 fun p1 l1 c1=>Slc l c none (some 18) none fun l2 h m=>DoV Tryz.prog (Builtin.append_ #[22,22] 22 #[.slice p1 l1 c1,.slice (slcP 1 l2 m p) (h-l2) (m-l2)])
 w fun v9 w=>OpS v9 fun p2 l3 c2=>Hld (S w) (StV r 2 (.slice p2 l3 c2) w fun w=>Hld (S w) (Ret [] (R (.int .i64 4) w)))) (LdV r 2 (At w) fun v10=>OpS v10 fun p3 l4
 c3=>DoV Tryz.prog (Builtin.append_ #[22,22] 22 #[.slice p3 l4 c3,.slice p l c]) w fun v11 w=>OpS v11 fun p4 l5 c4=>StV r 2 (.slice p4 l5 c4) w fun w=>Ret [] (R
 (.int .i64 0) w)))))
theorem C_nvram_Ram_Append {r:Nat} {x:Array Value} {w:World} {R:Value→World→Prop} (h:F_nvram_Ram_Append r x w R):zB Tryz.prog 165 #[.pointer (some ⟨r,0,none⟩),.agg x] w R:=by
 exact zE (args:=[.pointer (some ⟨r,0,none⟩),.agg x]) (mkAnn [] [] [] [] []) zD Tryz.func165 rfl rfl (by kernel_rfl) h
def F_nvram_Ram_Load (r:Nat) (listp:Option Addr) (listl:Nat) (listc:Nat) (w:World) (R:Value→World→Prop):Prop :=
 LoopC (σ:=(Option Addr×Nat×Nat)×Int×Unit) (fun _ s1 w K1=>Cb (decide (s1.2.1<((listl:Nat):Int))) (IdxS listp listl s1.2.1 19 fun b o=>LdA 19 b o (At w)
 fun cs=>Alc 246 (zc Tryz.prog 246) w fun b1 w=>StA 19 b1 0 cs w fun w=>LdA 19 b1 0 (At w) fun cs1=>zB Tryz.prog 230 #[.agg cs1] w fun v w=>T2 v fun v1 v2 =>
 OpS v1 fun p l c=>OpI .i64 v2 fun n=>Cb (n !=0) (Ret [] (R (.int .i64 n) w)) (LdV r 1 (At w) fun v3=>OpI .i64 v3 fun n1=>Cb (decide (((s1.1.2.1:Nat):Int) ≤
 n1)) (DoV Tryz.prog (Builtin.append_ #[22,22] 22 #[.slice s1.1.1 s1.1.2.1 s1.1.2.2,.slice p l c]) w fun v4 w=>OpS v4 fun p1 l1 c1=>K1 ((p1,l1,c1),(IntKind.wrap
 .i64 (s1.2.1+1),())) w) (K1 ((s1.1.1,s1.1.2.1,s1.1.2.2),(IntKind.wrap .i64 (s1.2.1+1),())) w))) (LdV r 0 (At w) fun v5=>OpN v5 fun b2 o1=>zB Tryz.prog 44
 #[.pointer (some ⟨b2,o1,none⟩)] w fun v6 w=>OpB v6 fun g=>Cb (!g) (Ret [] (R (.int .i64 4) w)) (LdV r 1 (At w) fun v7=>OpI .i64 v7 fun n2=>Cb (decide (((s1.1.2.1
 : Nat):Int)>n2)) (Ret [] (R (.int .i64 9) w)) (LdV r 0 (At w) fun v8=>OpN v8 fun b3 o2=>zB Tryz.prog 195 #[.pointer (some ⟨b3,o2,none⟩)] w fun v9 w=>OpB v9
 fun g1=>Cb (!g1) (Ret [] (R (.int .i64 4) w)) (StV r 2 (.slice s1.1.1 s1.1.2.1 s1.1.2.2) w fun w=>Ret [] (R (.int .i64 0) w)))))) ((none,0,0),(0,())) w
theorem C_nvram_Ram_Load {r:Nat} {listp:Option Addr} {listl:Nat} {listc:Nat} {w:World} {R:Value→World→Prop} (h:F_nvram_Ram_Load r listp listl listc w R):zB Tryz.prog 170 #[.pointer (some ⟨r,0,none⟩),.slice listp listl listc] w R:=by
 exact zE (args:=[.pointer (some ⟨r,0,none⟩),.slice listp listl listc]) (mkAnn [(5,[(5,.slice),(14,(.int .i64))])] [] [] [] []) zD Tryz.func170 rfl rfl (by kernel_rfl) h
def F_nvram_Ram_Records (r:Nat) (w:World) (R:Value→World→Prop):Prop :=
 LdV r 2 (At w) fun v=>OpS v fun p l c=>zB Tryz.prog 136 #[.slice p l c] w fun v1 w=>T2 v1 fun v2 v3=>OpS v2 fun p1 l1 c1=>OpI .i64 v3 fun n=>Ret [] (R
 (.slice p1 l1 c1) w)
theorem C_nvram_Ram_Records {r:Nat} {w:World} {R:Value→World→Prop} (h:F_nvram_Ram_Records r w R):zB Tryz.prog 62 #[.pointer (some ⟨r,0,none⟩)] w R:=by
 exact zE (args:=[.pointer (some ⟨r,0,none⟩)]) (mkAnn [] [] [] [] []) zD Tryz.func62 rfl rfl (by kernel_rfl) h
def F_nvram_Ram_Room (r:Nat) (w:World) (R:Value→World→Prop):Prop :=
 LdV r 1 (At w) fun v=>OpI .i64 v fun n=>LdV r 2 (At w) fun v1=>OpS v1 fun p l c=>Req ((37:Int)≠0) (Drw w fun w=>Ret [] (R (.int .i64 (IntKind.wrap .i64
 (Int.tdiv (IntKind.wrap .i64 (n-((l:Nat):Int))) 37))) w))
theorem C_nvram_Ram_Room {r:Nat} {w:World} {R:Value→World→Prop} (h:F_nvram_Ram_Room r w R):zB Tryz.prog 221 #[.pointer (some ⟨r,0,none⟩)] w R:=by
 exact zE (args:=[.pointer (some ⟨r,0,none⟩)]) (mkAnn [] [] [] [] []) zD Tryz.func221 rfl rfl (by kernel_rfl) h
end Go.Proofs
namespace Go.Proofs
open Go Go.Ev
set_option maxRecDepth 100000
def raC (m:Nat) (size:Int) (p:Option Addr) (l c:Nat):Array Value:=#[.pointer (some ⟨m,0,none⟩),.int .i64 size,.slice p l c]
structure RaAt (w:World) (base m r:Nat) (size:Int) (p:Option Addr) (l c:Nat) (bs:List Int):Prop where
 cells:Has w r (.cells (raC m size p l c) 214 (0,0))
 row:OwnL byLay w base 5 p l c bs
section calls
variable {w:World} {base m r:Nat} {size:Int} {p:Option Addr} {l c:Nat} {bs:List Int} {R:Value→World→Prop}
theorem ra_New (hs:37≤size) (hs2:size≤65536) (hK:∀ w',RaAt w' base m w.heap.size size none 0 0 []→Keep (fun _=>False) w w'→w'.heap.size=w.heap.size+1→R (.tuple #[.pointer (some ⟨w.heap.size,0,none⟩),.int .i64 0]) w'):zB Tryz.prog 54 #[.int .i64 size,.pointer (some ⟨m,0,none⟩)] w R:=by
 apply C_nvram_New
 unfold F_nvram_New
 refine ⟨rfl,rfl,rfl,rfl,?_⟩
 have e:(cond (cond (decide (size<37)) true (decide (size>65536))) true false)=false:=by
  rw [decide_eq_false (by omega),decide_eq_false (by omega)];rfl
 rw [e]
 refine (Cb_false (p:=_)).2 ?_
 refine DoQ_of (v:=.agg (raC m size none 0 0)) (fun d=>run_build _ _ _ _ (by kernel_rfl)) ?_
 refine OpA_agg.2 ⟨rfl,?_⟩
 rw [Alc_iff]
 exact Ret_nil.2 (hK _ ⟨Has.new _ _,OwnL.nil⟩ (Keep.new _ _ _) (by simp))
theorem ra_Room (h:RaAt w base m r size p l c bs) (hs:37≤size) (hs2:size≤65536) (hl:(l:Int)≤size) (hK:∀ d,R (.int .i64 ((size-(bs.length:Int)) / 37)) (w.dr d)):zB Tryz.prog 221 #[.pointer (some ⟨r,0,none⟩)] w R:=by
 apply C_nvram_Ram_Room
 unfold F_nvram_Ram_Room
 refine LdV_has (v:=.int .i64 size) h.cells rfl ?_
 refine zA.2 ?_
 refine LdV_has (v:=.slice p l c) h.cells rfl ?_
 refine zC.2 ⟨by decide,fun d=>?_⟩
 refine Ret_nil.2 ?_
 have hlen:=h.row.length
 have e1:IntKind.wrap .i64 (size-(l:Int))=size-(l:Int):=wrapI (by omega) (by omega)
 have e2:IntKind.wrap .i64 (Int.tdiv (size-(l:Int)) 37)=(size-(l:Int)) / 37:=by
  rw [Int.tdiv_eq_ediv_of_nonneg (by omega),wrapI (by omega) (by omega)]
 rw [e1,e2,hlen]
 exact hK d
theorem ra_Records (h:RaAt w base m r size p l c bs) (hl:l≤1000000) (hby:By bs) (hK:∀ p' c' w',OwnL rLay w' w.heap.size 246 p' (scanB bs).length c' (scanB bs)→Keep (fun _=>False) w w'→R (.slice p' (scanB bs).length c') w'):zB Tryz.prog 62 #[.pointer (some ⟨r,0,none⟩)] w R:=by
 apply C_nvram_Ram_Records
 unfold F_nvram_Ram_Records
 refine LdV_has (v:=.slice p l c) h.cells rfl ?_
 refine zC.2 ?_
 refine c_Scan h.row.sl hl h.row.cap.1 hby fun p' c' w' o k=>?_
 exact T2_mk.2 (zC.2 (zA.2 (Ret_nil.2 (hK p' c' w' o k))))
def appP (pw:Pow) (size:Int) (bs:List Int) (x:Rec):Int×Pow×List Int :=
 if pw.on=false then (4,pw,bs)
 else if (size-(bs.length:Int)) / 37<1 then (9,pw,bs)
 else if (stepP pw).1=false then (4,(stepP pw).2,bs++(packB x).take 18)
 else (0,(stepP pw).2,bs++packB x)
theorem ra_Append {pw:Pow} {x:Rec} (h:RaAt w base m r size p l c bs) (hm:MaAt w m pw) (hx:recGood x=true) (hs:37≤size) (hs2:size≤65536) (hl:(l:Int)≤size) (hb:base≤w.heap.size)
  (hK:∀ p' l' c' w',RaAt w' base m r size p' l' c' (appP pw size bs x).2.2→MaAt w' m (appP pw size bs x).2.1→(p'=p∨∃ k,w.heap.size≤k∧p'=some ⟨k,0,none⟩)→Keep (fun k=>k=m∨k=r∨p=some ⟨k,0,none⟩) w w'→R (.int .i64 (appP pw size bs x).1) w') :
  zB Tryz.prog 165 #[.pointer (some ⟨r,0,none⟩),.agg (recV x)] w R:=by
 apply C_nvram_Ram_Append
 unfold F_nvram_Ram_Append
 have hlen:=h.row.length
 have hmr:m≠r:=fun e=>by
  subst e
  have:=(show Has w m _ from hm).inj h.cells
  simp only [Obj.cells.injEq] at this
  exact absurd this.2.1 (by decide)
 refine alc_fresh fun w1 hb1 k1 z1=>?_
 refine LdA_all hb1 rfl ?_
 refine c_Pack (fun hg _ _=>by rw [hx] at hg;cases hg) (fun _ g c2 w2 o2 k2=>?_)
 refine T2_mk.2 (zC.2 (zA.2 ?_))
 refine (Cb_false (p:=_)).2 ?_
 have k02:=k1.trans k2
 have hc2:=k02.has h.cells (by simp)
 have hm2:MaAt w2 m pw:=k02.has hm (by simp)
 have ow2:=h.row.keep k02 (by simp)
 have keepF:∀ {w'},Keep (fun _=>False) w w'→Keep (fun k=>k=m∨k=r∨p=some ⟨k,0,none⟩) w w':=fun k=>k.mono (by simp)
 refine LdV_has (v:=.pointer (some ⟨m,0,none⟩)) hc2 rfl ?_
 refine OpN_some.2 ?_
 refine ma_On hm2 ?_
 refine OpB_bool.2 ?_
 unfold appP at hK
 refine Cb_of (fun hon=>?_) (fun hon=>?_)
 ·have hon:pw.on=false:=by simpa using hon
  rw [if_pos hon] at hK
  exact Ret_nil.2 (hK p l c w2 ⟨hc2,ow2⟩ hm2 (Or.inl rfl) (keepF k02))
 have hon:pw.on=true:=by simpa using hon
 rw [if_neg (by rw [hon];simp)] at hK
 refine ra_Room (⟨hc2,ow2⟩:RaAt w2 base m r size p l c bs) hs hs2 hl fun d=>?_
 refine zA.2 ?_
 have k02d:Keep (fun _=>False) w (w2.dr d):=k02.dr d
 have ow2d:=h.row.keep k02d (by simp)
 refine Cb_of (fun hr=>?_) (fun hr=>?_)
 ·have hr:(size-(bs.length:Int)) / 37<1:=by simpa using hr
  rw [if_pos hr] at hK
  exact Ret_nil.2 (hK p l c (w2.dr d) ⟨hc2,ow2d⟩ hm2 (Or.inl rfl) (keepF k02d))
 have hr:¬ (size-(bs.length:Int)) / 37<1:=by simpa using hr
 rw [if_neg hr] at hK
 refine LdV_has (v:=.pointer (some ⟨m,0,none⟩)) (hc2.dr d) rfl ?_
 refine OpN_some.2 ?_
 refine ma_Step (w:=w2.dr d) (p:=pw) hm2 fun w3 hm3 k3 z3=>?_
 refine OpB_bool.2 ?_
 have hr3:=k3.has (hc2.dr d) (fun e=>hmr e.symm)
 have pm:∀ {w':World} {e:TypeId} {b1:Nat} {pp:Option Addr} {ll cc:Nat} {ys:List Int} {k:Nat} {cs:Array Value} {t:TypeId} {f:Nat×Nat},OwnL byLay w' b1 5 pp ll cc ys→Has w' k (.cells cs t f)→t≠5→¬ pp=some ⟨k,0,none⟩:=by
  intro w' e b1 pp ll cc ys k cs t f ho hk ht hp
  rcases Own.cases ho with ⟨h0,_⟩ | ⟨b',cur,h0,_,hg,_⟩
  ·rw [h0] at hp;cases hp
  ·rw [h0] at hp;cases hp
   have:=hg.inj hk
   simp only [Obj.cells.injEq] at this
   exact ht this.2.1.symm
 have ow3:OwnL byLay w3 base 5 p l c bs:=ow2d.keep k3 fun k hk e=>by
  subst e
  exact pm (e:=0) ow2d (show Has (w2.dr d) _ _ from hm2) (by decide) hk
 have og3:OwnL byLay w3 w1.heap.size 5 (some ⟨g,0,none⟩) 37 c2 (packB x):=(o2.keep (Keep.drew (fun _=>False) w2 d) (by simp)).keep k3 fun k hk e=>by
  subst e
  exact pm (e:=0) (o2.keep (Keep.drew (fun _=>False) w2 d) (by simp)) (show Has (w2.dr d) _ _ from hm2) (by decide) hk
 have k03:Keep (fun k=>k=m∨k=r∨p=some ⟨k,0,none⟩) w w3:=(keepF k02d).trans (k3.mono fun k hk=>Or.inl hk)
 have hs03:w.heap.size≤w3.heap.size:=k03.size
 have put:∀ (ds:List Int) (p5:Option Addr) (l5 c5:Nat) (w5:World),OwnL byLay w5 base 5 p5 l5 c5 (bs++ds)→Keep (fun k=>p=some ⟨k,0,none⟩) w3 w5→(p5=p∨p5=some ⟨w3.heap.size,0,none⟩)→∀ K:World→Prop,
   (∀ w',RaAt w' base m r size p5 l5 c5 (bs++ds)→MaAt w' m (stepP pw).2→(p5=p∨∃ k,w.heap.size≤k∧p5=some ⟨k,0,none⟩)→Keep (fun k=>k=m∨k=r∨p=some ⟨k,0,none⟩) w w'→K w') →
   StV r 2 (.slice p5 l5 c5) w5 K:=by
  intro ds p5 l5 c5 w5 o5 k5 hp5 K hK'
  have hr5:=k5.has hr3 (pm (e:=0) ow3 hr3 (by decide))
  have hm5:MaAt w5 m (stepP pw).2:=k5.has hm3 (pm (e:=0) ow3 (show Has w3 _ _ from hm3) (by decide))
  refine StV_of hr5 (by show 2<3;decide) rfl ?_
  refine (hK' _ ⟨hr5.upd_same _,o5.keep (Keep.one _ _ _) fun k hk e=>by subst e;exact pm (e:=0) o5 hr5 (by decide) hk⟩ (Has.upd hm5 hmr) ?_ ?_)
  ·rcases hp5 with h5 | h5
   ·exact Or.inl h5
   ·exact Or.inr ⟨_,hs03,h5⟩
  ·exact (k03.trans (k5.mono fun k hk=>Or.inr (Or.inr hk))).upd (fun _=>Or.inr (Or.inl rfl)) _
 refine Cb_of (fun hst=>?_) (fun hst=>?_)
 ·have hst:(stepP pw).1=false:=by simpa using hst
  rw [if_pos hst] at hK
  intro d2
  refine ⟨fun _=>True,trivial,?_⟩
  refine LdV_has (v:=.slice p l c) (hr3.dr d2) rfl ?_
  refine zC.2 ?_
  have hcap:=og3.cap
  refine Slc_hiN (hi:=18) (by omega) ?_
  have kd:Keep (fun _=>False) w3 (w3.dr d2):=Keep.drew _ _ d2
  have hsub:=(og3.keep kd (by simp)).sl.sub (lo:=0) (hi:=18) (m:=c2) (by omega) (by omega) (by omega)
  rw [List.drop_zero] at hsub
  obtain ⟨p5,c5,w5,hr5,o5,k5,hp5⟩:=run_appendF byLayT (ow3.keep kd (by simp)) hsub (ty:=22) (c2:=c2-0) (by omega) (by simp only [maxLen];omega) (Nat.le_trans hb hs03)
  refine ⟨_,_,hr5,zC.2 ⟨trivial,?_⟩⟩
  refine put _ p5 _ c5 w5 o5 ((kd.mono (by simp)).trans k5) hp5 _ fun w' a1 a2 a3 a4=>⟨trivial,Ret_nil.2 ?_⟩
  exact hK p5 _ c5 w' a1 a2 a3 a4
 ·have hst:(stepP pw).1=true:=by simpa using hst
  rw [if_neg (by rw [hst];simp)] at hK
  refine LdV_has (v:=.slice p l c) hr3 rfl ?_
  refine zC.2 ?_
  obtain ⟨p5,c5,w5,hr5,o5,k5,hp5⟩:=run_appendF byLayT ow3 og3.sl (ty:=22) (c2:=c2) (by omega) (by simp only [maxLen];omega) (Nat.le_trans hb hs03)
  refine ⟨_,_,hr5,zC.2 ?_⟩
  refine put _ p5 _ c5 w5 o5 k5 hp5 _ fun w' a1 a2 a3 a4=>Ret_nil.2 ?_
  exact hK p5 _ c5 w' a1 a2 a3 a4
end calls
def loadP (pw:Pow) (size:Int) (bs:List Int) (rs:List Rec):Int×Pow×List Int :=
 if pw.on=false then (4,pw,bs)
 else if size<37*(rs.length:Int) then (9,pw,bs)
 else if (stepP pw).1=false then (4,(stepP pw).2,bs)
 else (0,(stepP pw).2,rs.flatMap packB)
theorem len_flatPack (rs:List Rec):(rs.flatMap packB).length=37*rs.length:=by
 induction rs with
 | nil=>rfl
 | cons r rs ih=>rw [List.flatMap_cons,List.length_append,ih,len_packB,List.length_cons];omega
theorem bytes_ne {w:World} {b1:Nat} {pp:Option Addr} {ll cc:Nat} {ys:List Int} {k:Nat} {cs:Array Value} {t:TypeId} {f:Nat×Nat} (ho:OwnL byLay w b1 5 pp ll cc ys) (hk:Has w k (.cells cs t f)) (ht:t≠5):¬ pp=some ⟨k,0,none⟩:=by
 intro hp
 rcases Own.cases ho with ⟨h0,_⟩ | ⟨b',cur,h0,_,hg,_⟩
 ·rw [h0] at hp;cases hp
 ·rw [h0] at hp;cases hp
  have:=hg.inj hk
  simp only [Obj.cells.injEq] at this
  exact ht this.2.1.symm
section calls
variable {w:World} {base m r:Nat} {size:Int} {p:Option Addr} {l c:Nat} {bs:List Int} {R:Value→World→Prop}
theorem ra_Load {pw:Pow} {rs:List Rec} {lp:Option Addr} {ll lc:Nat} (h:RaAt w base m r size p l c bs) (hm:MaAt w m pw) (hrs:SlL rLay w lp ll rs) (hx:∀ x∈rs,recGood x=true) (hs:37≤size) (hs2:size≤65536) (hl:ll≤1000000) (hb:base≤w.heap.size)
  (hK:∀ p' l' c' w',RaAt w' base m r size p' l' c' (loadP pw size bs rs).2.2→MaAt w' m (loadP pw size bs rs).2.1→(p'=p∨∀ k,p'=some ⟨k,0,none⟩→w.heap.size≤k)→Keep (fun k=>k=m∨k=r) w w'→R (.int .i64 (loadP pw size bs rs).1) w') :
  zB Tryz.prog 170 #[.pointer (some ⟨r,0,none⟩),.slice lp ll lc] w R:=by
 apply C_nvram_Ram_Load
 unfold F_nvram_Ram_Load
 have hll:=hrs.1
 have hmr:m≠r:=fun e=>by
  subst e
  have:=(show Has w m _ from hm).inj h.cells
  simp only [Obj.cells.injEq] at this
  exact absurd this.2.1 (by decide)
 generalize hq:w.heap.size=q at *
 refine LoopC_of (σ:=(Option Addr×Nat×Nat)×Int×Unit) (fun st w'=>∃ (k j:Nat),st.2.1=(k:Int)∧k≤ll∧j≤k∧(37*(j:Int)≤size+37)∧(j=k∨size<37*(j:Int))∧st.1.2.1=37*j∧OwnL byLay w' q 5 st.1.1 (37*j) st.1.2.2 ((rs.take j).flatMap packB)∧Keep (fun k=>q≤k) w w')
  (fun st _=>(ll-st.2.1).toNat) ⟨0,0,rfl,by omega,by omega,by omega,Or.inl rfl,rfl,OwnL.nil,Keep.refl _ _⟩ ?_
 rintro _ ⟨⟨p1,l1,c1⟩,i1,u⟩ w1 ⟨k,j,hi,hk,hjk,hj,hjj,hl1,o1,k1⟩
 simp only at hi hl1 o1 ⊢
 subst hi hl1
 have k01:Keep (fun _=>False) w w1:=⟨k1.os,k1.tape,k1.output,k1.size,fun i hi _=>k1.block i hi (by omega)⟩
 refine Cb_of (fun hc=>?_) (fun hc=>?_)
 ·have hc:k<ll:=by simpa using hc
  have hget:rs[k]? = some rs[k]:=List.getElem?_eq_getElem (by omega)
  generalize hr:rs[k]=x at hget
  refine (hrs.keepB k01 (by simp)).ldA (i:=(k:Int)) (n:=19) (x:=x) rfl (by omega) (by simpa using hget) ?_
  refine copy_of zc_rc rfl (one_recV x) fun w3 hb3 k2' z3=>?_
  refine LdA_all hb3 rfl ?_
  have hgx:=hx x (List.mem_of_getElem? hget)
  refine c_Pack (fun hg _ _=>by rw [hgx] at hg;cases hg) (fun _ g c4 w4 o4 k4=>?_)
  refine T2_mk.2 (zC.2 (zA.2 ?_))
  refine (Cb_false (p:=_)).2 ?_
  have k14:=k2'.trans k4
  have k04:=k01.trans k14
  refine LdV_has (v:=.int .i64 size) (k04.has h.cells (by simp)) rfl ?_
  refine zA.2 ?_
  have e1:IntKind.wrap .i64 ((k:Int)+1)=((k+1:Nat):Int):=by rw [wrapI (by omega) (by omega)];omega
  have hq4:q≤w4.heap.size:=by have:=k1.size;have:=k14.size;omega
  refine Cb_of (fun hc2=>?_) (fun hc2=>?_)
  ·have hc2:37*(j:Int)≤size:=by simp only [decide_eq_true_eq] at hc2;omega
   have hjk':j=k:=by rcases hjj with h | h;exact h;omega
   subst hjk'
   obtain ⟨p5,c5,w5,hr5,o5,k5,hp5⟩:=run_appendF byLayT (o1.keep k14 (by simp)) o4.sl (ty:=22) (c2:=c4) (by omega) (by simp only [maxLen];omega) hq4
   refine ⟨_,_,hr5,zC.2 ?_⟩
   have et:(rs.take (j+1)).flatMap packB=(rs.take j).flatMap packB++packB x:=by
    rw [List.take_add_one,hget];simp
   have e37:37*j+37=37*(j+1):=by omega
   refine ⟨_,?_,⟨j+1,j+1,e1,by omega,Nat.le_refl _,by omega,Or.inl rfl,e37,?_,?_⟩,rfl⟩
   ·show ((ll:Int)-IntKind.wrap .i64 ((j:Int)+1)).toNat<((ll:Int)-(j:Int)).toNat
    rw [e1];omega
   ·show OwnL byLay w5 q 5 p5 (37*(j+1)) c5 _
    rw [et,← e37];exact o5
   ·refine (k1.trans (k14.mono (by simp))).trans (k5.mono fun i hi=>?_)
    exact (o1.lt hi).1
  ·have hc2:size<37*(j:Int):=by simp only [decide_eq_false_iff_not] at hc2;omega
   refine ⟨_,?_,⟨k+1,j,e1,by omega,by omega,hj,Or.inr hc2,rfl,o1.keep k14 (by simp),k1.trans (k14.mono (by simp))⟩,rfl⟩
   show ((ll:Int)-IntKind.wrap .i64 ((k:Int)+1)).toNat<((ll:Int)-(k:Int)).toNat
   rw [e1];omega
 ·have hc:k=ll:=by
   have:¬ ((k:Int)<(ll:Int)):=by simpa using hc
   omega
  have hr1:=k01.has h.cells (by simp)
  have hm1:MaAt w1 m pw:=k01.has hm (by simp)
  have ow1:=h.row.keep k01 (by simp)
  unfold loadP at hK
  have kM:∀ {w'},Keep (fun _=>False) w w'→Keep (fun k=>k=m∨k=r) w w':=fun k=>k.mono (by simp)
  refine LdV_has (v:=.pointer (some ⟨m,0,none⟩)) hr1 rfl ?_
  refine OpN_some.2 ?_
  refine ma_On hm1 ?_
  refine OpB_bool.2 ?_
  refine Cb_of (fun hon=>?_) (fun hon=>?_)
  ·have hon:pw.on=false:=by simpa using hon
   rw [if_pos hon] at hK
   exact Ret_nil.2 (hK p l c w1 ⟨hr1,ow1⟩ hm1 (Or.inl rfl) (kM k01))
  have hon:pw.on=true:=by simpa using hon
  rw [if_neg (by rw [hon];simp)] at hK
  refine LdV_has (v:=.int .i64 size) hr1 rfl ?_
  refine zA.2 ?_
  refine Cb_of (fun hsz=>?_) (fun hsz=>?_)
  ·have hsz:size<37*(j:Int):=by simp only [decide_eq_true_eq] at hsz;omega
   rw [if_pos (by omega)] at hK
   exact Ret_nil.2 (hK p l c w1 ⟨hr1,ow1⟩ hm1 (Or.inl rfl) (kM k01))
  have hsz:37*(j:Int)≤size:=by simp only [decide_eq_false_iff_not] at hsz;omega
  have hjk':j=ll:=by rcases hjj with h | h;omega;omega
  subst hjk'
  rw [if_neg (by omega)] at hK
  refine LdV_has (v:=.pointer (some ⟨m,0,none⟩)) hr1 rfl ?_
  refine OpN_some.2 ?_
  refine ma_Step hm1 fun w3 hm3 k3 z3=>?_
  refine OpB_bool.2 ?_
  have hr3:=k3.has hr1 (fun e=>hmr e.symm)
  have k03:Keep (fun k=>k=m∨k=r) w w3:=(kM k01).trans (k3.mono fun k hk=>Or.inl hk)
  have ow3:OwnL byLay w3 base 5 p l c bs:=ow1.keep k3 fun k hk e=>by
   subst e
   exact bytes_ne ow1 (show Has w1 _ _ from hm1) (by decide) hk
  have on3:OwnL byLay w3 q 5 p1 (37*j) c1 ((rs.take j).flatMap packB):=o1.keep k3 fun k hk e=>by
   subst e
   exact bytes_ne o1 (show Has w1 _ _ from hm1) (by decide) hk
  refine Cb_of (fun hst=>?_) (fun hst=>?_)
  ·have hst:(stepP pw).1=false:=by simpa using hst
   rw [if_pos hst] at hK
   exact Ret_nil.2 (hK p l c w3 ⟨hr3,ow3⟩ hm3 (Or.inl rfl) k03)
  ·have hst:(stepP pw).1=true:=by simpa using hst
   rw [if_neg (by rw [hst];simp)] at hK
   have eall:(rs.take j).flatMap packB=rs.flatMap packB:=by rw [List.take_of_length_le (by omega)]
   rw [eall] at on3
   refine StV_of hr3 (by show 2<3;decide) rfl ?_
   refine Ret_nil.2 (hK p1 (37*j) c1 _ ⟨hr3.upd_same _,?_⟩ (Has.upd hm3 hmr) ?_ ?_)
   ·exact (on3.rebase hb).keep (Keep.one _ _ _) fun k hk e=>by subst e;exact bytes_ne on3 hr3 (by decide) hk
   ·exact Or.inr fun k hk=>(on3.lt hk).1
   ·exact k03.upd (fun _=>Or.inr rfl) _
end calls
end Go.Proofs
namespace Go.Proofs
open Go.Ev
set_option maxRecDepth 100000
def F_cache_New (room:Int) (w:World) (R:Value→World→Prop):Prop :=
 Req ((decide (room<1))=(decide (room<1))) (Req ((decide (room<1))=(decide (room<1))) (Cb (cond (decide (room<1)) true (decide (room>64))) (Ret [] (R
 (.tuple #[.pointer none,.int .i64 2]) w)) (DoV Tryz.prog (Instr.makeMap 242 none) w fun v w=>OpM v fun m=>DoQ Tryz.prog (Instr.build 244 #[(0,.int .i64 room),(1,
 .map m)]) (At w) fun v1=>OpA 2 v1 fun cs=>Alc 244 cs w fun b w=>Ret [] (R (.tuple #[.pointer (some ⟨b,0,none⟩),.int .i64 0]) w))))
theorem C_cache_New {room:Int} {w:World} {R:Value→World→Prop} (h:F_cache_New room w R):zB Tryz.prog 211 #[.int .i64 room] w R:=by
 exact zE (args:=[.int .i64 room]) (mkAnn [] [] [] [] []) zD Tryz.func211 rfl rfl (by kernel_rfl) h
def F_cache_Cache_Put (c:Nat) (lba:Int) (data:Array Value) (version:Int) (w:World) (R:Value→World→Prop):Prop :=
 Alc 37 data w fun b w=>Req (false=false) (Req (false=false) (Req ((decide (lba<0))=(decide (lba<0))) (Req ((decide (lba<0))=(decide (lba<0))) (Cb (cond
 (decide (lba<0)) true (decide (lba>2147483647))) (Ret [] (R (.int .i64 2) w)) (LdV c 1 (At w) fun v=>OpM v fun m=>DoQ Tryz.prog (Instr.lookup 242 (.map m) (.int
 .i64 lba) true) (At w) fun v1=>T2 v1 fun v2 v3=>OpA 17 v2 fun cs=>OpB v3 fun g=>Alc 354 (zc Tryz.prog 354) w fun b1 w=>StA 17 b1 0 cs w fun w=>Cb g (LdV b1 16
 (At w) fun v4=>OpI .u64 v4 fun n=>Cb (decide (n≥version)) (Ret [] (R (.int .i64 2) w)) (Cb (!g) (zB Tryz.prog 226 #[.pointer (some ⟨c,0,none⟩)] w fun v5 w =>
 OpB v5 fun g1=>Cb g1 (Ret [] (R (.int .i64 9) w)) (Dr1 w fun w=>LdV c 1 (At w) fun v6=>OpM v6 fun m1=>LdA 16 b 0 (At w) fun cs1=>DoQ Tryz.prog (Instr.build 354
 #[(0,.agg cs1),(1,.int .u64 version)]) (At w) fun v7=>OpA 17 v7 fun cs2=>DoU Tryz.prog (Instr.mapUpdate 242 (.map m1) (.int .i64 lba) (.agg cs2)) w fun w=>Ret []
 (R (.int .i64 0) w))) (Dr1 w fun w=>LdV c 1 (At w) fun v8=>OpM v8 fun m2=>LdA 16 b 0 (At w) fun cs3=>DoQ Tryz.prog (Instr.build 354 #[(0,.agg cs3),(1,.int .u64
 version)]) (At w) fun v9=>OpA 17 v9 fun cs4=>DoU Tryz.prog (Instr.mapUpdate 242 (.map m2) (.int .i64 lba) (.agg cs4)) w fun w=>Ret [] (R (.int .i64 0) w)))) (Cb (!g)
 (zB Tryz.prog 226 #[.pointer (some ⟨c,0,none⟩)] w fun v10 w=>OpB v10 fun g2=>Cb g2 (Ret [] (R (.int .i64 9) w)) (Dr1 w fun w=>LdV c 1 (At w) fun v11=>OpM v11
 fun m3=>LdA 16 b 0 (At w) fun cs5=>DoQ Tryz.prog (Instr.build 354 #[(0,.agg cs5),(1,.int .u64 version)]) (At w) fun v12=>OpA 17 v12 fun cs6=>DoU Tryz.prog
 (Instr.mapUpdate 242 (.map m3) (.int .i64 lba) (.agg cs6)) w fun w=>Ret [] (R (.int .i64 0) w))) (Dr1 w fun w=>LdV c 1 (At w) fun v13=>OpM v13 fun m4=>LdA 16 b 0
 (At w) fun cs7=>DoQ Tryz.prog (Instr.build 354 #[(0,.agg cs7),(1,.int .u64 version)]) (At w) fun v14=>OpA 17 v14 fun cs8=>DoU Tryz.prog (Instr.mapUpdate 242 (.map
 m4) (.int .i64 lba) (.agg cs8)) w fun w=>Ret [] (R (.int .i64 0) w))))))))
theorem C_cache_Cache_Put {c:Nat} {lba:Int} {data:Array Value} {version:Int} {w:World} {R:Value→World→Prop} (h:F_cache_Cache_Put c lba data version w R):zB Tryz.prog 212 #[.pointer (some ⟨c,0,none⟩),.int .i64 lba,.agg data,.int .u64 version] w R:=by
 exact zE (args:=[.pointer (some ⟨c,0,none⟩),.int .i64 lba,.agg data,.int .u64 version]) (mkAnn [] [] [] [] []) zD Tryz.func212 rfl rfl (by kernel_rfl) h
def F_cache_Cache_Get (c:Nat) (lba:Int) (w:World) (R:Value→World→Prop):Prop :=
 Alc 37 (zc Tryz.prog 37) w fun b w=>LdV c 1 (At w) fun v=>OpM v fun m=>DoQ Tryz.prog (Instr.lookup 242 (.map m) (.int .i64 lba) true) (At w) fun v1=>T2 v1 fun v2
 v3=>OpA 17 v2 fun cs=>OpB v3 fun g=>Alc 354 (zc Tryz.prog 354) w fun b1 w=>StA 17 b1 0 cs w fun w=>Cb (!g) (DoQ Tryz.prog (Instr.build 37 #[]) (At w) fun v4 =>
 OpA 16 v4 fun cs1=>StA 16 b 0 cs1 w fun w=>LdA 16 b 0 (At w) fun cs2=>Ret [] (R (.tuple #[.agg cs2,.int .u64 0,.int .i64 10]) w)) (HeldR w fun S w=>LdA 16 b1 0
 (At w) fun cs3=>LdV b1 16 S fun v5=>OpI .u64 v5 fun n=>StA 16 b 0 cs3 w fun w=>Hld (S w) (LdA 16 b 0 (At w) fun cs4=>Ret [] (R (.tuple #[.agg cs4,.int .u64 n,
 .int .i64 0]) w)))
theorem C_cache_Cache_Get {c:Nat} {lba:Int} {w:World} {R:Value→World→Prop} (h:F_cache_Cache_Get c lba w R):zB Tryz.prog 225 #[.pointer (some ⟨c,0,none⟩),.int .i64 lba] w R:=by
 exact zE (args:=[.pointer (some ⟨c,0,none⟩),.int .i64 lba]) (mkAnn [] [] [] [] []) zD Tryz.func225 rfl rfl (by kernel_rfl) h
def F_cache_Cache_Len (c:Nat) (w:World) (R:Value→World→Prop):Prop :=
 LdV c 1 (At w) fun v=>OpM v fun m=>DoQ Tryz.prog (Builtin.len_ #[242] 3 #[.map m]) (At w) fun v1=>OpI .i64 v1 fun n=>Ret [] (R (.int .i64 n) w)
theorem C_cache_Cache_Len {c:Nat} {w:World} {R:Value→World→Prop} (h:F_cache_Cache_Len c w R):zB Tryz.prog 83 #[.pointer (some ⟨c,0,none⟩)] w R:=by
 exact zE (args:=[.pointer (some ⟨c,0,none⟩)]) (mkAnn [] [] [] [] []) zD Tryz.func83 rfl rfl (by kernel_rfl) h
def F_cache_Cache_Full (c:Nat) (w:World) (R:Value→World→Prop):Prop :=
 LdV c 1 (At w) fun v=>OpM v fun m=>DoQ Tryz.prog (Builtin.len_ #[242] 3 #[.map m]) (At w) fun v1=>OpI .i64 v1 fun n=>LdV c 0 (At w) fun v2=>OpI .i64 v2 fun n1 =>
 Drw w fun w=>Ret [] (R (.bool (decide (n≥n1))) w)
theorem C_cache_Cache_Full {c:Nat} {w:World} {R:Value→World→Prop} (h:F_cache_Cache_Full c w R):zB Tryz.prog 226 #[.pointer (some ⟨c,0,none⟩)] w R:=by
 exact zE (args:=[.pointer (some ⟨c,0,none⟩)]) (mkAnn [] [] [] [] []) zD Tryz.func226 rfl rfl (by kernel_rfl) h
end Go.Proofs
namespace Go.Proofs
open Go Go.Ev
set_option maxRecDepth 100000
abbrev Ent:=Sec×Int
def entV (e:Ent):Value :=
 .agg #[.int .u8 (e.1 0),.int .u8 (e.1 1),.int .u8 (e.1 2),.int .u8 (e.1 3),.int .u8 (e.1 4),.int .u8 (e.1 5),.int .u8 (e.1 6),.int .u8 (e.1 7),
  .int .u8 (e.1 8),.int .u8 (e.1 9),.int .u8 (e.1 10),.int .u8 (e.1 11),.int .u8 (e.1 12),.int .u8 (e.1 13),.int .u8 (e.1 14),.int .u8 (e.1 15),.int .u64 e.2]
def CacheAt (w:World) (c m:Nat) (room:Int) (es:List (Int×Ent)):Prop :=
 Has w c (.cells #[.int .i64 room,.map (some m)] 244 (0,0))∧MapAt .i64 w m (tag entV es)
theorem CacheAt.keep {w w':World} {c m:Nat} {room:Int} {es:List (Int×Ent)} {S:Nat→Prop} (h:CacheAt w c m room es) (hk:Keep S w w') (hc:¬ S c) (hm:¬ S m):CacheAt w' c m room es :=
 ⟨hk.has h.1 hc,h.2.keep hk hm⟩
theorem CacheAt.lt {w:World} {c m:Nat} {room:Int} {es:List (Int×Ent)} (h:CacheAt w c m room es):c<w.heap.size∧m<w.heap.size:=⟨h.1.lt,h.2.lt⟩
theorem under_map:Tryz.prog.underlying 242=some (.map 3 354):=by kernel_rfl
theorem under_int:Tryz.prog.underlying 3=some (.int .i64):=by kernel_rfl
theorem zero_ent (w:World):(zeroValue 354).run Tryz.prog w=.ok (entV (sec [],0)) w:=run_zeroValue (i:=((Tryz.prog.info? 354).get (by kernel_rfl))) (by kernel_rfl) (by kernel_rfl)
theorem bld_ent (f:Sec) (v:Int) (w:World):(Instr.build 354 #[(0,.agg (secV f)),(1,.int .u64 v)]).run Tryz.prog w=.ok (entV (f,v)) w:=run_build _ _ _ _ (by kernel_rfl)
theorem zc_ent:zc Tryz.prog 354=(entV (sec [],0)).cells:=by kernel_rfl
theorem bld_cache (room:Int) (m:Nat) (w:World):(Instr.build 244 #[(0,.int .i64 room),(1,.map (some m))]).run Tryz.prog w=.ok (.agg #[.int .i64 room,.map (some m)]) w:=run_build _ _ _ _ (by kernel_rfl)
theorem look_cache {w:World} {m:Nat} {es:List (Int×Ent)} (h:MapAt .i64 w m (tag entV es)) (x:Int) :
  (Instr.lookup 242 (.map (some m)) (.int .i64 x) true).run Tryz.prog w=.ok (.tuple #[entV ((mlook es x).getD (sec [],0)),.bool (mlook es x).isSome]) w:=by
 rw [run_lookup under_map under_int zero_ent h,look_tag]
 cases mlook es x <;> rfl
theorem cache_New {room:Int} (h1:1≤room) (h2:room≤64) {w:World} {R:Value→World→Prop}
  (hK:∀ c m w',CacheAt w' c m room []→Keep (fun _=>False) w w'→w.heap.size≤c→w.heap.size≤m→R (.tuple #[.pointer (some ⟨c,0,none⟩),.int .i64 0]) w') :
  zB Tryz.prog 211 #[.int .i64 room] w R:=by
 apply C_cache_New
 unfold F_cache_New
 refine ⟨rfl,rfl,?_⟩
 have e1:decide (room<1)=false:=by simp;omega
 have e2:decide (room>64)=false:=by simp;omega
 simp only [e1,e2,cond_false,Cb_false]
 refine ⟨_,_,run_makeMap,?_⟩
 simp only [OpM_map]
 refine DoQ_of (fun d=>bld_cache _ _ _) ?_
 simp only [OpA_agg]
 refine ⟨rfl,?_⟩
 rw [Alc_iff]
 simp only [Ret_nil]
 have hm:=Has.new w (.map #[] 0)
 refine hK _ w.heap.size _ ⟨Has.new _ _,#[],0,hm.alloc,MapOk.nil _⟩ (((Keep.refl _ w).alloc _).alloc _) (by simp) (Nat.le_refl _)
theorem cache_Full {c m:Nat} {room:Int} {es:List (Int×Ent)} {w:World} {R:Value→World→Prop} (h:CacheAt w c m room es)
  (hK:∀ d,R (.bool (decide (room≤(es.length:Int)))) (w.dr d)):zB Tryz.prog 226 #[.pointer (some ⟨c,0,none⟩)] w R:=by
 apply C_cache_Cache_Full
 unfold F_cache_Cache_Full
 refine LdV_has (v:=.map (some m)) h.1 rfl ?_
 simp only [OpM_map]
 refine DoQ_of (fun d=>run_lenm under_map (h.2.dr d)) ?_
 simp only [zA]
 refine LdV_has (v:=.int .i64 room) h.1 rfl ?_
 simp only [zA,Drw_iff,Ret_nil,length_tag]
 exact hK
theorem cache_Get {c m:Nat} {room:Int} {es:List (Int×Ent)} {lba:Int} {w:World} {R:Value→World→Prop} (h:CacheAt w c m room es)
  (hK:∀ w',Keep (fun _=>False) w w'→R (match mlook es lba with
   | some e=>.tuple #[.agg (secV e.1),.int .u64 e.2,.int .i64 0]
   | none=>.tuple #[.agg (secV (sec [])),.int .u64 0,.int .i64 10]) w') :
  zB Tryz.prog 225 #[.pointer (some ⟨c,0,none⟩),.int .i64 lba] w R:=by
 apply C_cache_Cache_Get
 unfold F_cache_Cache_Get
 rw [Alc_iff]
 have hb:=Has.new w (.cells (zc Tryz.prog 37) 37)
 have k1:=(Keep.refl (fun _=>False) w).alloc (.cells (zc Tryz.prog 37) 37)
 have h1:=h.keep k1 (by simp) (by simp)
 generalize hw1:w.alloc (.cells (zc Tryz.prog 37) 37)=w1 at *
 refine LdV_has (v:=.map (some m)) h1.1 rfl ?_
 simp only [OpM_map]
 refine DoQ_of (fun d=>look_cache (h1.2.dr d) lba) ?_
 simp only [T2_mk,entV,OpA_agg,OpB_bool]
 refine ⟨rfl,?_⟩
 rw [Alc_iff]
 have hb1:=Has.new w1 (.cells (zc Tryz.prog 354) 354)
 have hb':=hb.alloc (y:=.cells (zc Tryz.prog 354) 354)
 have k2:=k1.alloc (.cells (zc Tryz.prog 354) 354)
 have hne:w.heap.size≠w1.heap.size:=hb.ne_new
 have hlt:=hb.lt
 generalize hw2:w1.alloc (.cells (zc Tryz.prog 354) 354)=w2 at *
 rw [zc_ent] at hb1
 rw [zc_sec] at hb'
 refine StA_all hb1 rfl rfl ?_ ?_
 ·intro v hv
  simp only [List.mem_cons,List.not_mem_nil,or_false] at hv
  rcases hv with rfl | rfl | rfl | rfl | rfl | rfl | rfl | rfl | rfl | rfl | rfl | rfl | rfl | rfl | rfl | rfl | rfl <;> rfl
 generalize hcs:(#[Value.int IntKind.u8 _,_,_,_,_,_,_,_,_,_,_,_,_,_,_,_,_]:Array Value)=cs
 have hb2:=hb1.upd_same (.cells cs 354)
 have hb3:=hb'.upd (y:=.cells cs 354) hne
 have k3:=k2.upd (k:=w1.heap.size) (by omega) (.cells cs 354)
 generalize hw3:w2.upd w1.heap.size (.cells cs 354)=w3 at *
 cases hl:mlook es lba with
 | none =>
  simp only [hl] at hK
  simp only [Option.isSome_none,Bool.not_false,Cb_true]
  refine DoQ_of (fun d=>bld_sec0 _) ?_
  simp only [OpA_agg]
  refine ⟨rfl,StA_all hb3 rfl rfl (one_secV _) ?_⟩
  have hb4:=hb3.upd_same (.cells (secV (sec [])) 37)
  refine LdA_all hb4 rfl ?_
  simp only [Ret_nil]
  exact hK _ (k3.upd (by omega) _)
 | some e =>
  simp only [hl] at hK hcs
  simp only [Option.isSome_some,Bool.not_true,Cb_false]
  intro d
  refine ⟨fun w'=>Has w' w1.heap.size (.cells cs 354),hb2,?_⟩
  subst hcs
  refine LdA_has (cs:=secV e.1) (hb2.dr d) (by simp) rfl ?_
  refine LdV_of (v:=.int .u64 e.2) (fun w' h=>⟨_,_,_,h,rfl⟩) ?_
  simp only [zA]
  refine StA_all (hb3.dr d) rfl rfl (one_secV _) ?_
  refine ⟨(hb2.dr d).upd (fun e=>hne e.symm),?_⟩
  have hb4:=(hb3.dr d).upd_same (.cells (secV e.1) 37)
  refine LdA_all hb4 rfl ?_
  simp only [Ret_nil]
  exact hK _ ((k3.dr d).upd (by omega) _)
def putE (room:Int) (es:List (Int×Ent)) (lba version:Int):Int :=
 if lba<0∨2147483647<lba then 2 else
 match mlook es lba with
 | some e=>if version≤e.2 then 2 else 0
 | none=>if room≤(es.length:Int) then 9 else 0
theorem put_tail {c m b:Nat} {room lba version:Int} {f:Sec} {es:List (Int×Ent)} {w0 w:World} {R:Value→World→Prop} (h:CacheAt w c m room es) (k:Keep (fun k=>k=m) w0 w)
  (hb:Has w b (.cells (secV f) 37 (0,0)))
  (hK:∀ w',Keep (fun k=>k=m) w0 w'→CacheAt w' c m room (ins es lba (f,version))→R (.int .i64 0) w') :
  Dr1 w fun w=>LdV c 1 (At w) fun v6=>OpM v6 fun m1=>LdA 16 b 0 (At w) fun cs1=>DoQ Tryz.prog (Instr.build 354 #[(0,.agg cs1),(1,.int .u64 version)]) (At w) fun v7=>OpA 17 v7 fun cs2 =>
   DoU Tryz.prog (Instr.mapUpdate 242 (.map m1) (.int .i64 lba) (.agg cs2)) w fun w=>Ret [] (R (.int .i64 0) w):=by
 intro d _
 refine LdV_has (v:=.map (some m)) (h.1.dr d) rfl ?_
 simp only [OpM_map]
 refine LdA_all (hb.dr d) rfl ?_
 refine DoQ_of (fun d=>bld_ent _ _ _) ?_
 simp only [entV,OpA_agg]
 refine ⟨rfl,?_⟩
 obtain ⟨arr,clk,hr,ho⟩:=run_mapUpdate (P:=Tryz.prog) under_map under_int (h.2.dr d) lba (entV (f,version))
 refine ⟨_,hr,?_⟩
 rw [ins_tag] at ho
 simp only [Ret_nil]
 obtain ⟨arr0,clk0,hm,_⟩:=h.2
 exact hK _ ((k.dr d).upd (fun _=>rfl) _) ⟨(h.1.dr d).upd (h.1.ne hm (by simp)),arr,clk,(hm.dr d).upd_same _,ho⟩
theorem cache_Put {c m:Nat} {room lba version:Int} {f:Sec} {es:List (Int×Ent)} {w:World} {R:Value→World→Prop} (h:CacheAt w c m room es)
  (hK:∀ w',Keep (fun k=>k=m) w w'→CacheAt w' c m room (if putE room es lba version=0 then ins es lba (f,version) else es)→R (.int .i64 (putE room es lba version)) w') :
  zB Tryz.prog 212 #[.pointer (some ⟨c,0,none⟩),.int .i64 lba,.agg (secV f),.int .u64 version] w R:=by
 apply C_cache_Cache_Put
 unfold F_cache_Cache_Put
 rw [Alc_iff]
 have hb:=Has.new w (.cells (secV f) 37)
 have k1:=(Keep.refl (fun k=>k=m) w).alloc (.cells (secV f) 37)
 have h1:=h.keep (w':=w.alloc (.cells (secV f) 37)) ((Keep.refl (fun k=>False) w).alloc _) (by simp) (by simp)
 have hlt:=h.lt
 generalize hw1:w.alloc (.cells (secV f) 37)=w1 at *
 refine ⟨rfl,rfl,rfl,rfl,?_⟩
 refine Cb_of (fun hc=>?_) (fun hc=>?_)
 ·have hr:lba<0∨2147483647<lba:=by
   by_cases h1:lba<0
   ·exact Or.inl h1
   ·simp [h1] at hc;exact Or.inr hc
  have he:putE room es lba version=2:=by simp [putE,hr]
  rw [he] at hK
  simp only [Ret_nil]
  exact hK _ k1 (by simpa using h1)
 have hr:¬ (lba<0∨2147483647<lba):=by
  by_cases h1:lba<0
  ·simp [h1] at hc
  ·simp [h1] at hc;omega
 refine LdV_has (v:=.map (some m)) h1.1 rfl ?_
 simp only [OpM_map]
 refine DoQ_of (fun d=>look_cache (h1.2.dr d) lba) ?_
 simp only [T2_mk,entV,OpA_agg,OpB_bool]
 refine ⟨rfl,?_⟩
 rw [Alc_iff]
 have hb1:=Has.new w1 (.cells (zc Tryz.prog 354) 354)
 have hb':=hb.alloc (y:=.cells (zc Tryz.prog 354) 354)
 have k2:=k1.alloc (.cells (zc Tryz.prog 354) 354)
 have h2:=h1.keep (w':=w1.alloc (.cells (zc Tryz.prog 354) 354)) ((Keep.refl (fun k=>False) w1).alloc _) (by simp) (by simp)
 have hne:w.heap.size≠w1.heap.size:=hb.ne_new
 have hlb:=hb.lt
 have hlt1:=h1.lt
 generalize hw2:w1.alloc (.cells (zc Tryz.prog 354) 354)=w2 at *
 rw [zc_ent] at hb1
 refine StA_all hb1 rfl rfl ?_ ?_
 ·intro v hv
  simp only [List.mem_cons,List.not_mem_nil,or_false] at hv
  rcases hv with rfl | rfl | rfl | rfl | rfl | rfl | rfl | rfl | rfl | rfl | rfl | rfl | rfl | rfl | rfl | rfl | rfl <;> rfl
 generalize hcs:(#[Value.int IntKind.u8 _,_,_,_,_,_,_,_,_,_,_,_,_,_,_,_,_]:Array Value)=cs
 have hb2:=hb1.upd_same (.cells cs 354)
 have hb3:=hb'.upd (y:=.cells cs 354) hne
 have k3:=k2.upd (k:=w1.heap.size) (by omega) (.cells cs 354)
 have h3:=h2.keep (w':=w2.upd w1.heap.size (.cells cs 354)) (S:=fun k=>k=w1.heap.size) (Keep.upd (Keep.refl (fun k=>k=w1.heap.size) w2) (k:=w1.heap.size) (fun _=>rfl) _) (by omega) (by omega)
 generalize hw3:w2.upd w1.heap.size (.cells cs 354)=w3 at *
 cases hl:mlook es lba with
 | some e =>
  simp only [Option.isSome_some,Bool.not_true,Cb_true,Cb_false]
  refine LdV_has (v:=.int .u64 e.2) hb2 (by subst hcs;simp [hl]) ?_
  simp only [zA]
  refine Cb_of (fun hv=>?_) (fun hv=>?_)
  ·have he:putE room es lba version=2:=by
    simp only [decide_eq_true_eq] at hv
    simp only [putE,if_neg hr,hl,if_pos hv]
   rw [he] at hK
   simp only [Ret_nil]
   exact hK _ k3 (by simpa using h3)
  ·have he:putE room es lba version=0:=by
    simp only [decide_eq_false_iff_not,ge_iff_le] at hv
    simp only [putE,if_neg hr,hl,if_neg hv]
   rw [he] at hK
   exact put_tail h3 k3 hb3 fun w' hk' hc'=>hK w' hk' (by simpa using hc')
 | none =>
  simp only [Option.isSome_none,Bool.not_false,Cb_true,Cb_false]
  refine cache_Full h3 fun d=>?_
  simp only [OpB_bool]
  refine Cb_of (fun hv=>?_) (fun hv=>?_)
  ·have he:putE room es lba version=9:=by
    simp only [decide_eq_true_eq] at hv
    simp only [putE,if_neg hr,hl,if_pos hv]
   rw [he] at hK
   simp only [Ret_nil]
   exact hK _ (k3.dr d) (by simpa using h3.keep ((Keep.refl (fun _=>False) w3).dr d) (by simp) (by simp))
  ·have he:putE room es lba version=0:=by
    simp only [decide_eq_false_iff_not] at hv
    simp only [putE,if_neg hr,hl,if_neg hv]
   rw [he] at hK
   exact put_tail (h3.keep ((Keep.refl (fun _=>False) w3).dr d) (by simp) (by simp)) (k3.dr d) (hb3.dr d) fun w' hk' hc'=>hK w' hk' (by simpa using hc')
end Go.Proofs
namespace Go.Proofs
open Go.Ev
set_option maxRecDepth 100000
def F_mirror_side (n:Int) (w:World) (R:Value→World→Prop):Prop :=
 Req ((n==0)=(n==0)) (Req ((n==0)=(n==0)) (Ret [] (R (.bool (cond (n==0) true (n==1))) w)))
theorem C_mirror_side {n:Int} {w:World} {R:Value→World→Prop} (h:F_mirror_side n w R):zB Tryz.prog 169 #[.int .i64 n] w R:=by
 exact zE (args:=[.int .i64 n]) (mkAnn [] [] [] [] []) zD Tryz.func169 rfl rfl (by kernel_rfl) h
def F_mirror_Resume (a:Nat) (b:Nat) (room:Int) (epoch:Int) (last:Int) (dirtyp:Option Addr) (dirtyl:Nat) (dirtyc:Nat) (w:World) (R:Value→World→Prop):Prop :=
 zB Tryz.prog 211 #[.int .i64 room] w fun v w=>T2 v fun v1 v2=>OpP v1 (OpI .i64 v2 fun n=>Req (false=false) (Req (false=false) (EqB Tryz.prog .eql 104 (.tmp
 35) (.tmp 36) (.pointer (some ⟨a,0,none⟩):Value) (.pointer (some ⟨b,0,none⟩):Value) (At w) fun g=>Req (g=g) (Req (g=g) (Cb (cond g true (n !=0)) (Ret [] (R
 (.tuple #[.pointer none,.int .i64 2]) w)) (DoV Tryz.prog (Instr.makeMap 316 none) w fun v3 w=>OpM v3 fun m=>LoopC (σ:=Int×Unit) (fun _ s1 w K1=>Cb (decide (s1.1
 < ((dirtyl:Nat):Int))) (IdxS dirtyp dirtyl s1.1 19 fun b1 o=>LdA 19 b1 o (At w) fun cs=>Alc 246 (zc Tryz.prog 246) w fun b2 w=>StA 19 b2 0 cs w fun w=>LdV b2 2
 (At w) fun v4=>OpI .i64 v4 fun n1=>DoQ Tryz.prog (Instr.lookup 316 (.map m) (.int .i64 n1) true) (At w) fun v5=>T2 v5 fun v6 v7=>OpA 0 v6 fun cs1=>OpB v7 fun g1
 => Alc 130 (zc Tryz.prog 130) w fun b3 w=>StA 0 b3 0 cs1 w fun w=>LdV b2 0 (At w) fun v8=>OpI .i64 v8 fun n2=>Cb (n2 !=1) (Req (true=true) (Ret [] (R (.tuple
 #[.pointer none,.int .i64 2]) w))) (LdV b2 2 (At w) fun v9=>OpI .i64 v9 fun n3=>Cb (decide (n3<0)) (Req (true=true) (Ret [] (R (.tuple #[.pointer none,.int .i64
 2]) w))) (LdV b2 2 (At w) fun v10=>OpI .i64 v10 fun n4=>Cb (decide (n4>2147483647)) (Req (true=true) (Ret [] (R (.tuple #[.pointer none,.int .i64 2]) w))) (LdV b2
 1 (At w) fun v11=>OpI .u64 v11 fun n5=>Req ((decide (n5>last))=(decide (n5>last))) (Cb (cond (decide (n5>last)) true g1) (Ret [] (R (.tuple #[.pointer none,
 .int .i64 2]) w)) (LdV b2 2 (At w) fun v12=>OpI .i64 v12 fun n6=>DoQ Tryz.prog (Instr.build 130 #[]) (At w) fun v13=>OpA 0 v13 fun cs2=>DoU Tryz.prog
 (Instr.mapUpdate 316 (.map m) (.int .i64 n6) (.agg cs2)) w fun w=>K1 (IntKind.wrap .i64 (s1.1+1),()) w)))))) (Cb (decide (((dirtyl:Nat):Int)>room)) (Ret [] (R
 (.tuple #[.pointer none,.int .i64 9]) w)) (LoopC (σ:=Int×Unit) (fun _ s2 w K2=>Cb (decide (s2.1<((dirtyl:Nat):Int))) (IdxS dirtyp dirtyl s2.1 19 fun b4 o1 =>
 LdA 19 b4 o1 (At w) fun cs3=>Alc 246 (zc Tryz.prog 246) w fun b5 w=>StA 19 b5 0 cs3 w fun w=>LdV b5 2 (At w) fun v14=>OpI .i64 v14 fun n7=>LdA 16 b5 3 (At w) fun
 cs4=>LdV b5 1 (At w) fun v15=>OpI .u64 v15 fun n8=>zB Tryz.prog 212 #[.pointer none,.int .i64 n7,.agg cs4,.int .u64 n8] w fun v16 w=>OpI .i64 v16 fun n9 =>
 K2 (IntKind.wrap .i64 (s2.1+1),()) w) (DoQ Tryz.prog (Instr.build 136 #[(0,.pointer (some ⟨a,0,none⟩)),(1,.pointer (some ⟨b,0,none⟩))]) (At w) fun v17=>OpA 2
 v17 fun cs5=>DoQ Tryz.prog (Instr.build 138 #[(0,.bool true),(1,.bool true)]) (At w) fun v18=>OpA 2 v18 fun cs6=>DoQ Tryz.prog (Instr.build 153 #[(0,.pointer
 none),(1,.agg cs5),(2,.agg cs6),(3,.int .u32 epoch),(4,.int .u64 last)]) (At w) fun v19=>OpA 7 v19 fun cs7=>Alc 153 cs7 w fun b6 w=>Ret [] (R (.tuple
 #[.pointer (some ⟨b6,0,none⟩),.int .i64 0]) w))) (0,()) w))) (0,()) w)))))) fun b7 o2=>OpI .i64 v2 fun n10=>Req (false=false) (Req (false=false) (EqB
 Tryz.prog .eql 104 (.tmp 35) (.tmp 36) (.pointer (some ⟨a,0,none⟩):Value) (.pointer (some ⟨b,0,none⟩):Value) (At w) fun g2=>Req (g2=g2) (Req (g2=g2) (Cb
 (cond g2 true (n10 !=0)) (Ret [] (R (.tuple #[.pointer none,.int .i64 2]) w)) (DoV Tryz.prog (Instr.makeMap 316 none) w fun v20 w=>OpM v20 fun m1=>LoopC (σ:=Int ×
 Unit) (fun _ s3 w K3=>Cb (decide (s3.1<((dirtyl:Nat):Int))) (IdxS dirtyp dirtyl s3.1 19 fun b8 o3=>LdA 19 b8 o3 (At w) fun cs8=>Alc 246 (zc Tryz.prog 246) w
 fun b9 w=>StA 19 b9 0 cs8 w fun w=>LdV b9 2 (At w) fun v21=>OpI .i64 v21 fun n11=>DoQ Tryz.prog (Instr.lookup 316 (.map m1) (.int .i64 n11) true) (At w) fun v22 =>
 T2 v22 fun v23 v24=>OpA 0 v23 fun cs9=>OpB v24 fun g3=>Alc 130 (zc Tryz.prog 130) w fun b10 w=>StA 0 b10 0 cs9 w fun w=>LdV b9 0 (At w) fun v25=>OpI .i64 v25
 fun n12=>Cb (n12 !=1) (Req (true=true) (Ret [] (R (.tuple #[.pointer none,.int .i64 2]) w))) (LdV b9 2 (At w) fun v26=>OpI .i64 v26 fun n13=>Cb (decide (n13 <
 0)) (Req (true=true) (Ret [] (R (.tuple #[.pointer none,.int .i64 2]) w))) (LdV b9 2 (At w) fun v27=>OpI .i64 v27 fun n14=>Cb (decide (n14>2147483647)) (Req (true
 = true) (Ret [] (R (.tuple #[.pointer none,.int .i64 2]) w))) (LdV b9 1 (At w) fun v28=>OpI .u64 v28 fun n15=>Req ((decide (n15>last))=(decide (n15>last))) (Cb
 (cond (decide (n15>last)) true g3) (Ret [] (R (.tuple #[.pointer none,.int .i64 2]) w)) (LdV b9 2 (At w) fun v29=>OpI .i64 v29 fun n16=>DoQ Tryz.prog (Instr.build
 130 #[]) (At w) fun v30=>OpA 0 v30 fun cs10=>DoU Tryz.prog (Instr.mapUpdate 316 (.map m1) (.int .i64 n16) (.agg cs10)) w fun w=>K3 (IntKind.wrap .i64 (s3.1+1),())
 w)))))) (Cb (decide (((dirtyl:Nat):Int)>room)) (Ret [] (R (.tuple #[.pointer none,.int .i64 9]) w)) (LoopC (σ:=Int×Unit) (fun _ s4 w K4=>Cb (decide (s4.1 <
 ((dirtyl:Nat):Int))) (IdxS dirtyp dirtyl s4.1 19 fun b11 o4=>LdA 19 b11 o4 (At w) fun cs11=>Alc 246 (zc Tryz.prog 246) w fun b12 w=>StA 19 b12 0 cs11 w fun w =>
 LdV b12 2 (At w) fun v31=>OpI .i64 v31 fun n17=>LdA 16 b12 3 (At w) fun cs12=>LdV b12 1 (At w) fun v32=>OpI .u64 v32 fun n18=>zB Tryz.prog 212 #[.pointer
 (some ⟨b7,o2,none⟩),.int .i64 n17,.agg cs12,.int .u64 n18] w fun v33 w=>OpI .i64 v33 fun n19=>K4 (IntKind.wrap .i64 (s4.1+1),()) w) (DoQ Tryz.prog (Instr.build
 136 #[(0,.pointer (some ⟨a,0,none⟩)),(1,.pointer (some ⟨b,0,none⟩))]) (At w) fun v34=>OpA 2 v34 fun cs13=>DoQ Tryz.prog (Instr.build 138 #[(0,.bool true),(1,
 .bool true)]) (At w) fun v35=>OpA 2 v35 fun cs14=>DoQ Tryz.prog (Instr.build 153 #[(0,.pointer (some ⟨b7,o2,none⟩)),(1,.agg cs13),(2,.agg cs14),(3,.int .u32
 epoch),(4,.int .u64 last)]) (At w) fun v36=>OpA 7 v36 fun cs15=>Alc 153 cs15 w fun b13 w=>Ret [] (R (.tuple #[.pointer (some ⟨b13,0,none⟩),.int .i64 0]) w)))
 (0,()) w))) (0,()) w)))))
theorem C_mirror_Resume {a:Nat} {b:Nat} {room:Int} {epoch:Int} {last:Int} {dirtyp:Option Addr} {dirtyl:Nat} {dirtyc:Nat} {w:World} {R:Value→World→Prop} (h:F_mirror_Resume a b room epoch last dirtyp dirtyl dirtyc w R):zB Tryz.prog 139 #[.pointer (some ⟨a,0,none⟩),.pointer (some ⟨b,0,none⟩),.int .i64 room,.int .u32 epoch,.int .u64 last,.slice dirtyp dirtyl dirtyc] w R:=by
 exact zE (args:=[.pointer (some ⟨a,0,none⟩),.pointer (some ⟨b,0,none⟩),.int .i64 room,.int .u32 epoch,.int .u64 last,.slice dirtyp dirtyl dirtyc]) (mkAnn [(6,[(46,(.int .i64))]),(16,[(90,(.int .i64))])] [] [] [] []) zD Tryz.func139 rfl rfl (by kernel_rfl) h
def F_mirror_New (a:Nat) (b:Nat) (room:Int) (w:World) (R:Value→World→Prop):Prop :=
 zB Tryz.prog 139 #[.pointer (some ⟨a,0,none⟩),.pointer (some ⟨b,0,none⟩),.int .i64 room,.int .u32 0,.int .u64 0,.slice none 0 0] w fun v w=>T2 v fun v1 v2 =>
 OpP v1 (OpI .i64 v2 fun n=>Ret [] (R (.tuple #[.pointer none,.int .i64 n]) w)) fun b1 o=>OpI .i64 v2 fun n1=>Ret [] (R (.tuple #[.pointer (some ⟨b1,o,none⟩),.int
 .i64 n1]) w)
theorem C_mirror_New {a:Nat} {b:Nat} {room:Int} {w:World} {R:Value→World→Prop} (h:F_mirror_New a b room w R):zB Tryz.prog 73 #[.pointer (some ⟨a,0,none⟩),.pointer (some ⟨b,0,none⟩),.int .i64 room] w R:=by
 exact zE (args:=[.pointer (some ⟨a,0,none⟩),.pointer (some ⟨b,0,none⟩),.int .i64 room]) (mkAnn [] [] [] [] []) zD Tryz.func73 rfl rfl (by kernel_rfl) h
def F_mirror_Pair_Up (p:Nat) (from_:Int) (w:World) (R:Value→World→Prop):Prop :=
 zB Tryz.prog 169 #[.int .i64 from_] w fun v w=>OpB v fun g=>Cb (!g) (Ret [] (R (.slice none 0 0) w)) (DoV Tryz.prog (Instr.buildSlice 69 2 #[(0,.int .i64 from_),
 (1,.int .i64 (IntKind.wrap .i64 (1-from_)))]) w fun v1 w=>OpS v1 fun p1 l c=>LoopC (σ:=(Option Addr×Nat×Nat)×Int×Unit) (fun _ s1 w K1=>Cb (decide
 (s1.2.1<((l:Nat):Int))) (IdxS p1 l s1.2.1 1 fun b o=>LdV b o (At w) fun v2=>OpI .i64 v2 fun n=>Req (0≤n∧n<2) (LdV p (3+Int.toNat n*1) (At w) fun v3
 => OpB v3 fun g1=>Cb g1 (Req (0≤n∧n<2) (LdV p (1+Int.toNat n*1) (At w) fun v4=>OpN v4 fun b1 o1=>DoV Tryz.prog (Instr.buildSlice 109 1 #[(0,.pointer (some
 ⟨b1,o1,none⟩))]) w fun v5 w=>OpS v5 fun p2 l1 c1=>DoV Tryz.prog (Builtin.append_ #[109,109] 109 #[.slice s1.1.1 s1.1.2.1 s1.1.2.2,.slice p2 l1 c1]) w fun v6 w =>
 OpS v6 fun p3 l2 c2=>K1 ((p3,l2,c2),(IntKind.wrap .i64 (s1.2.1+1),())) w)) (K1 ((s1.1.1,s1.1.2.1,s1.1.2.2),(IntKind.wrap .i64 (s1.2.1+1),())) w))) (Ret [] (R
 (.slice s1.1.1 s1.1.2.1 s1.1.2.2) w))) ((none,0,0),(0,())) w)
theorem C_mirror_Pair_Up {p:Nat} {from_:Int} {w:World} {R:Value→World→Prop} (h:F_mirror_Pair_Up p from_ w R):zB Tryz.prog 159 #[.pointer (some ⟨p,0,none⟩),.int .i64 from_] w R:=by
 exact zE (args:=[.pointer (some ⟨p,0,none⟩),.int .i64 from_]) (mkAnn [(5,[(5,.slice),(20,(.int .i64))])] [] [] [] []) zD Tryz.func159 rfl rfl (by kernel_rfl) h
def F_mirror_Pair_each (p:Nat) (from_:Int) (x:Array Value) (w:World) (R:Value→World→Prop):Prop :=
 Alc 246 x w fun b w=>zB Tryz.prog 159 #[.pointer (some ⟨p,0,none⟩),.int .i64 from_] w fun v w=>OpS v fun p1 l c=>LoopC (σ:=Int×Unit) (fun _ s1 w K1=>Cb
 (decide (s1.1<((l:Nat):Int))) (IdxS p1 l s1.1 1 fun b1 o=>LdV b1 o (At w) fun v1=>OpN v1 fun b2 o1=>LdA 19 b 0 (At w) fun cs=>zB Tryz.prog 165 #[.pointer
 (some ⟨b2,o1,none⟩),.agg cs] w fun v2 w=>OpI .i64 v2 fun n=>Cb (n !=0) (Ret [] (R (.int .i64 n) w)) (K1 (IntKind.wrap .i64 (s1.1+1),()) w)) (Ret [] (R (.int
 .i64 0) w))) (0,()) w
theorem C_mirror_Pair_each {p:Nat} {from_:Int} {x:Array Value} {w:World} {R:Value→World→Prop} (h:F_mirror_Pair_each p from_ x w R):zB Tryz.prog 222 #[.pointer (some ⟨p,0,none⟩),.int .i64 from_,.agg x] w R:=by
 exact zE (args:=[.pointer (some ⟨p,0,none⟩),.int .i64 from_,.agg x]) (mkAnn [(2,[(14,(.int .i64))])] [] [] [] []) zD Tryz.func222 rfl rfl (by kernel_rfl) h
def F_mirror_Pair_Take (p:Nat) (w:World) (R:Value→World→Prop):Prop :=
 LdV p 6 (At w) fun v=>OpI .u64 v fun n=>StV p 6 (.int .u64 (IntKind.wrap .u64 (n+1))) w fun w=>LdV p 6 (At w) fun v1=>OpI .u64 v1 fun n1=>Ret [] (R (.int .u64
 n1) w)
theorem C_mirror_Pair_Take {p:Nat} {w:World} {R:Value→World→Prop} (h:F_mirror_Pair_Take p w R):zB Tryz.prog 158 #[.pointer (some ⟨p,0,none⟩)] w R:=by
 exact zE (args:=[.pointer (some ⟨p,0,none⟩)]) (mkAnn [] [] [] [] []) zD Tryz.func158 rfl rfl (by kernel_rfl) h
def F_mirror_Pair_Get (p:Nat) (lba:Int) (w:World) (R:Value→World→Prop):Prop :=
 Alc 37 (zc Tryz.prog 37) w fun b w=>LdV p 0 (At w) fun v=>OpN v fun b1 o=>zB Tryz.prog 225 #[.pointer (some ⟨b1,o,none⟩),.int .i64 lba] w fun v1 w=>T3 v1 fun
 v2 v3 v4=>OpA 16 v2 fun cs=>OpI .u64 v3 fun n=>OpI .i64 v4 fun n1=>StA 16 b 0 cs w fun w=>LdA 16 b 0 (At w) fun cs1=>Ret [] (R (.tuple #[.agg cs1,.int .u64 n,
 .int .i64 n1]) w)
theorem C_mirror_Pair_Get {p:Nat} {lba:Int} {w:World} {R:Value→World→Prop} (h:F_mirror_Pair_Get p lba w R):zB Tryz.prog 154 #[.pointer (some ⟨p,0,none⟩),.int .i64 lba] w R:=by
 exact zE (args:=[.pointer (some ⟨p,0,none⟩),.int .i64 lba]) (mkAnn [] [] [] [] []) zD Tryz.func154 rfl rfl (by kernel_rfl) h
def F_mirror_Pair_Full (p:Nat) (w:World) (R:Value→World→Prop):Prop :=
 LdV p 0 (At w) fun v=>OpN v fun b o=>zB Tryz.prog 226 #[.pointer (some ⟨b,o,none⟩)] w fun v1 w=>OpB v1 fun g=>Ret [] (R (.bool g) w)
theorem C_mirror_Pair_Full {p:Nat} {w:World} {R:Value→World→Prop} (h:F_mirror_Pair_Full p w R):zB Tryz.prog 155 #[.pointer (some ⟨p,0,none⟩)] w R:=by
 exact zE (args:=[.pointer (some ⟨p,0,none⟩)]) (mkAnn [] [] [] [] []) zD Tryz.func155 rfl rfl (by kernel_rfl) h
def F_mirror_Pair_Put (p:Nat) (from_:Int) (lba:Int) (data:Array Value) (w:World) (R:Value→World→Prop):Prop :=
 Alc 37 data w fun b w=>zB Tryz.prog 169 #[.int .i64 from_] w fun v w=>OpB v fun g=>Req ((!g)=(!g)) (Req ((!g)=(!g)) (Req ((cond (!g) true (decide (lba<0)))
 = (cond (!g) true (decide (lba<0)))) (Req ((cond (!g) true (decide (lba<0)))=(cond (!g) true (decide (lba<0)))) (Cb (cond (cond (!g) true (decide (lba<0))) true
 (decide (lba>2147483647))) (Ret [] (R (.tuple #[.int .u64 0,.int .i64 2]) w)) (Req (0≤from_∧from_<2) (LdV p (3+Int.toNat from_*1) (At w) fun v1=>OpB v1 fun
 g1=>Cb (!g1) (Ret [] (R (.tuple #[.int .u64 0,.int .i64 13]) w)) (zB Tryz.prog 154 #[.pointer (some ⟨p,0,none⟩),.int .i64 lba] w fun v2 w=>T3 v2 fun v3 v4 v5 =>
 OpA 16 v3 fun cs=>OpI .u64 v4 fun n=>OpI .i64 v5 fun n1=>Alc 37 (zc Tryz.prog 37) w fun b1 w=>StA 16 b1 0 cs w fun w=>Cb (n1 !=0) (zB Tryz.prog 155
 #[.pointer (some ⟨p,0,none⟩)] w fun v6 w=>OpB v6 fun g2=>Cb g2 (Ret [] (R (.tuple #[.int .u64 0,.int .i64 9]) w)) (zB Tryz.prog 158 #[.pointer (some ⟨p,0,
 none⟩)] w fun v7 w=>OpI .u64 v7 fun n2=>LdA 16 b 0 (At w) fun cs1=>DoQ Tryz.prog (Instr.build 246 #[(0,.int .i64 1),(1,.int .u64 n2),(2,.int .i64 lba),(3,.agg
 cs1)]) (At w) fun v8=>OpA 19 v8 fun cs2=>zB Tryz.prog 222 #[.pointer (some ⟨p,0,none⟩),.int .i64 from_,.agg cs2] w fun v9 w=>OpI .i64 v9 fun n3=>Cb (n3 !=
 0) (Ret [] (R (.tuple #[.int .u64 0,.int .i64 n3]) w)) (HeldR w fun S w=>LdV p 0 (At w) fun v10=>OpN v10 fun b2 o=>LdA 16 b 0 (At w) fun cs3=>zB Tryz.prog 212
 #[.pointer (some ⟨b2,o,none⟩),.int .i64 lba,.agg cs3,.int .u64 n2] w fun v11 w=>OpI .i64 v11 fun n4=>Hld (S w) (Ret [] (R (.tuple #[.int .u64 n2,.int .i64 0])
 w))))) (zB Tryz.prog 158 #[.pointer (some ⟨p,0,none⟩)] w fun v12 w=>OpI .u64 v12 fun n5=>LdA 16 b 0 (At w) fun cs4=>DoQ Tryz.prog (Instr.build 246 #[(0,.int
 .i64 1),(1,.int .u64 n5),(2,.int .i64 lba),(3,.agg cs4)]) (At w) fun v13=>OpA 19 v13 fun cs5=>zB Tryz.prog 222 #[.pointer (some ⟨p,0,none⟩),.int .i64
 from_,.agg cs5] w fun v14 w=>OpI .i64 v14 fun n6=>Cb (n6 !=0) (Ret [] (R (.tuple #[.int .u64 0,.int .i64 n6]) w)) (HeldR w fun S w=>LdV p 0 (At w) fun v15=>OpN
 v15 fun b3 o1=>LdA 16 b 0 (At w) fun cs6=>zB Tryz.prog 212 #[.pointer (some ⟨b3,o1,none⟩),.int .i64 lba,.agg cs6,.int .u64 n5] w fun v16 w=>OpI .i64 v16 fun
 n7=>Hld (S w) (Ret [] (R (.tuple #[.int .u64 n5,.int .i64 0]) w)))))))))))
theorem C_mirror_Pair_Put {p:Nat} {from_:Int} {lba:Int} {data:Array Value} {w:World} {R:Value→World→Prop} (h:F_mirror_Pair_Put p from_ lba data w R):zB Tryz.prog 156 #[.pointer (some ⟨p,0,none⟩),.int .i64 from_,.int .i64 lba,.agg data] w R:=by
 exact zE (args:=[.pointer (some ⟨p,0,none⟩),.int .i64 from_,.int .i64 lba,.agg data]) (mkAnn [] [] [] [] [71]) zD Tryz.func156 rfl rfl (by kernel_rfl) h
def F_mirror_Pair_Next (p:Nat) (w:World) (R:Value→World→Prop):Prop :=
 Alc 246 (zc Tryz.prog 246) w fun b w=>LdV p 0 (At w) fun v=>OpN v fun b1 o=>zB Tryz.prog 227 #[.pointer (some ⟨b1,o,none⟩)] w fun v1 w=>T2 v1 fun v2 v3=>OpA
 19 v2 fun cs=>OpI .i64 v3 fun n=>StA 19 b 0 cs w fun w=>LdA 19 b 0 (At w) fun cs1=>Ret [] (R (.tuple #[.agg cs1,.int .i64 n]) w)
theorem C_mirror_Pair_Next {p:Nat} {w:World} {R:Value→World→Prop} (h:F_mirror_Pair_Next p w R):zB Tryz.prog 157 #[.pointer (some ⟨p,0,none⟩)] w R:=by
 exact zE (args:=[.pointer (some ⟨p,0,none⟩)]) (mkAnn [] [] [] [] []) zD Tryz.func157 rfl rfl (by kernel_rfl) h
def F_mirror_Pair_Dirty (p:Nat) (w:World) (R:Value→World→Prop):Prop :=
 LdV p 0 (At w) fun v=>OpN v fun b o=>zB Tryz.prog 262 #[.pointer (some ⟨b,o,none⟩)] w fun v1 w=>OpS v1 fun p1 l c=>Ret [] (R (.slice p1 l c) w)
theorem C_mirror_Pair_Dirty {p:Nat} {w:World} {R:Value→World→Prop} (h:F_mirror_Pair_Dirty p w R):zB Tryz.prog 236 #[.pointer (some ⟨p,0,none⟩)] w R:=by
 exact zE (args:=[.pointer (some ⟨p,0,none⟩)]) (mkAnn [] [] [] [] []) zD Tryz.func236 rfl rfl (by kernel_rfl) h
def F_mirror_Pair_Flushed (p:Nat) (lba:Int) (version:Int) (w:World) (R:Value→World→Prop):Prop :=
 zB Tryz.prog 154 #[.pointer (some ⟨p,0,none⟩),.int .i64 lba] w fun v w=>T3 v fun v1 v2 v3=>OpA 16 v1 fun cs=>OpI .u64 v2 fun n=>OpI .i64 v3 fun n1=>Alc 37
 (zc Tryz.prog 37) w fun b w=>StA 16 b 0 cs w fun w=>Cb (n1 !=0) (Ret [] (R (.int .i64 n1) w)) (Cb (decide (n>version)) (Ret [] (R (.int .i64 12) w)) (DoQ Tryz.prog
 (Instr.build 246 #[(0,.int .i64 2),(1,.int .u64 version),(2,.int .i64 lba)]) (At w) fun v4=>OpA 19 v4 fun cs1=>zB Tryz.prog 222 #[.pointer (some ⟨p,0,none⟩),
 .int .i64 0,.agg cs1] w fun v5 w=>OpI .i64 v5 fun n2=>Cb (n2 !=0) (Ret [] (R (.int .i64 n2) w)) (LdV p 0 (At w) fun v6=>OpN v6 fun b1 o=>zB Tryz.prog 228
 #[.pointer (some ⟨b1,o,none⟩),.int .i64 lba,.int .u64 version] w fun v7 w=>OpI .i64 v7 fun n3=>Ret [] (R (.int .i64 n3) w))))
theorem C_mirror_Pair_Flushed {p:Nat} {lba:Int} {version:Int} {w:World} {R:Value→World→Prop} (h:F_mirror_Pair_Flushed p lba version w R):zB Tryz.prog 160 #[.pointer (some ⟨p,0,none⟩),.int .i64 lba,.int .u64 version] w R:=by
 exact zE (args:=[.pointer (some ⟨p,0,none⟩),.int .i64 lba,.int .u64 version]) (mkAnn [] [] [] [] []) zD Tryz.func160 rfl rfl (by kernel_rfl) h
def F_mirror_Pair_Stamp (p:Nat) (epoch:Int) (w:World) (R:Value→World→Prop):Prop :=
 DoQ Tryz.prog (Instr.build 246 #[(0,.int .i64 6),(1,.int .u64 (IntKind.wrap .u64 epoch))]) (At w) fun v=>OpA 19 v fun cs=>zB Tryz.prog 222 #[.pointer (some ⟨p,
 0,none⟩),.int .i64 0,.agg cs] w fun v1 w=>OpI .i64 v1 fun n=>Cb (n !=0) (Ret [] (R (.int .i64 n) w)) (StV p 5 (.int .u32 epoch) w fun w=>Ret [] (R (.int .i64 0)
 w))
theorem C_mirror_Pair_Stamp {p:Nat} {epoch:Int} {w:World} {R:Value→World→Prop} (h:F_mirror_Pair_Stamp p epoch w R):zB Tryz.prog 146 #[.pointer (some ⟨p,0,none⟩),.int .u32 epoch] w R:=by
 exact zE (args:=[.pointer (some ⟨p,0,none⟩),.int .u32 epoch]) (mkAnn [] [] [] [] []) zD Tryz.func146 rfl rfl (by kernel_rfl) h
def F_mirror_Pair_Leave (p:Nat) (n:Int) (w:World) (R:Value→World→Prop):Prop :=
 zB Tryz.prog 169 #[.int .i64 n] w fun v w=>OpB v fun g=>Cb (!g) (Ret [] (R (.int .i64 2) w)) (Req (0≤(0:Int)∧(0:Int)<2) (LdV p (3+Int.toNat 0*1) (At
 w) fun v1=>OpB v1 fun g1=>Cb (!g1) (Ret [] (R (.int .i64 13) w)) (Req (0≤(1:Int)∧(1:Int)<2) (LdV p (3+Int.toNat 1*1) (At w) fun v2=>OpB v2 fun g2=>Cb
 (!g2) (Ret [] (R (.int .i64 13) w)) (Req (0≤n∧n<2) (StV p (3+Int.toNat n*1) (.bool false) w fun w=>Ret [] (R (.int .i64 0) w)))))))
theorem C_mirror_Pair_Leave {p:Nat} {n:Int} {w:World} {R:Value→World→Prop} (h:F_mirror_Pair_Leave p n w R):zB Tryz.prog 143 #[.pointer (some ⟨p,0,none⟩),.int .i64 n] w R:=by
 exact zE (args:=[.pointer (some ⟨p,0,none⟩),.int .i64 n]) (mkAnn [] [] [] [] []) zD Tryz.func143 rfl rfl (by kernel_rfl) h
def F_mirror_Pair_short (p:Nat) (w:World) (R:Value→World→Prop):Prop :=
 HeldR w fun S w=>LdV p 5 S fun v=>OpI .u32 v fun n=>DoQ Tryz.prog (Instr.build 246 #[(0,.int .i64 6),(1,.int .u64 (IntKind.wrap .u64 n))]) S fun v1=>OpA 19 v1
 fun cs=>(DoV Tryz.prog (Instr.buildSlice 113 1 #[(0,.agg cs)]) w fun v2 w=>OpS v2 fun p1 l c=>Hld (S w) (zB Tryz.prog 236 #[.pointer (some ⟨p,0,none⟩)] w fun
 v3 w=>OpS v3 fun p2 l1 c1=>Hld (S w) (DoV Tryz.prog (Builtin.append_ #[113,113] 113 #[.slice p1 l c,.slice p2 l1 c1]) w fun v4 w=>OpS v4 fun p3 l2 c2=>Hld (S w)
 (Ret [] (R (.slice p3 l2 c2) w)))))∧(zB Tryz.prog 236 #[.pointer (some ⟨p,0,none⟩)] w fun v5 w=>OpS v5 fun p4 l3 c3=>Hld (S w) (DoV Tryz.prog (Instr.buildSlice
 113 1 #[(0,.agg cs)]) w fun v6 w=>OpS v6 fun p5 l4 c4=>Hld (S w) (DoV Tryz.prog (Builtin.append_ #[113,113] 113 #[.slice p5 l4 c4,.slice p4 l3 c3]) w fun v7 w =>
 OpS v7 fun p6 l5 c5=>Hld (S w) (Ret [] (R (.slice p6 l5 c5) w)))))
theorem C_mirror_Pair_short {p:Nat} {w:World} {R:Value→World→Prop} (h:F_mirror_Pair_short p w R):zB Tryz.prog 171 #[.pointer (some ⟨p,0,none⟩)] w R:=by
 exact zE (args:=[.pointer (some ⟨p,0,none⟩)]) (mkAnn [] [] [] [] [11]) zD Tryz.func171 rfl rfl (by kernel_rfl) h
def F_mirror_Pair_Join (p:Nat) (n:Int) (w:World) (R:Value→World→Prop):Prop :=
 zB Tryz.prog 169 #[.int .i64 n] w fun v w=>OpB v fun g=>Cb (!g) (Ret [] (R (.int .i64 2) w)) (Req (0≤n∧n<2) (LdV p (3+Int.toNat n*1) (At w) fun v1=>OpB
 v1 fun g1=>Cb g1 (Ret [] (R (.int .i64 11) w)) (HeldR w fun S w=>Req (0≤n∧n<2) (LdV p (1+Int.toNat n*1) S fun v2=>OpN v2 fun b o=>zB Tryz.prog 171
 #[.pointer (some ⟨p,0,none⟩)] w fun v3 w=>OpS v3 fun p1 l c=>Hld (S w) (zB Tryz.prog 170 #[.pointer (some ⟨b,o,none⟩),.slice p1 l c] w fun v4 w=>OpI .i64 v4
 fun n1=>Hld (S w) (Cb (n1 !=0) (Ret [] (R (.int .i64 n1) w)) (Req (0≤n∧n<2) (StV p (3+Int.toNat n*1) (.bool true) w fun w=>Ret [] (R (.int .i64 0)
 w)))))))))
theorem C_mirror_Pair_Join {p:Nat} {n:Int} {w:World} {R:Value→World→Prop} (h:F_mirror_Pair_Join p n w R):zB Tryz.prog 92 #[.pointer (some ⟨p,0,none⟩),.int .i64 n] w R:=by
 exact zE (args:=[.pointer (some ⟨p,0,none⟩),.int .i64 n]) (mkAnn [] [] [] [] [28,29]) zD Tryz.func92 rfl rfl (by kernel_rfl) h
def F_mirror_Pair_Compact (p:Nat) (w:World) (R:Value→World→Prop):Prop :=
 zB Tryz.prog 159 #[.pointer (some ⟨p,0,none⟩),.int .i64 0] w fun v w=>OpS v fun p1 l c=>LoopC (σ:=Int×Unit) (fun _ s1 w K1=>Cb (decide (s1.1<((l:Nat) :
 Int))) (IdxS p1 l s1.1 1 fun b o=>LdV b o (At w) fun v1=>OpN v1 fun b1 o1=>zB Tryz.prog 171 #[.pointer (some ⟨p,0,none⟩)] w fun v2 w=>OpS v2 fun p2 l1 c1 =>
 zB Tryz.prog 170 #[.pointer (some ⟨b1,o1,none⟩),.slice p2 l1 c1] w fun v3 w=>OpI .i64 v3 fun n=>Cb (n !=0) (Ret [] (R (.int .i64 n) w)) (K1 (IntKind.wrap .i64
 (s1.1+1),()) w)) (Ret [] (R (.int .i64 0) w))) (0,()) w
theorem C_mirror_Pair_Compact {p:Nat} {w:World} {R:Value→World→Prop} (h:F_mirror_Pair_Compact p w R):zB Tryz.prog 168 #[.pointer (some ⟨p,0,none⟩)] w R:=by
 exact zE (args:=[.pointer (some ⟨p,0,none⟩)]) (mkAnn [(4,[(11,(.int .i64))])] [] [] [] []) zD Tryz.func168 rfl rfl (by kernel_rfl) h
end Go.Proofs
namespace Go.Proofs
open Go Go.Ev
set_option maxRecDepth 100000
structure PB where
 p:Nat
 c:Nat
 mp:Nat
 m:Nat
 a:Nat
 b:Nat
 base:Nat
 room:Int
 sz:Int
structure PS where
 es:List (Int×Ent)
 last:Int
 epoch:Int
 ua:Bool
 ub:Bool
 pw:Pow
 xa:List Int
 xb:List Int
def pairC (q:PB) (s:PS):Array Value:=#[.pointer (some ⟨q.c,0,none⟩),.pointer (some ⟨q.a,0,none⟩),.pointer (some ⟨q.b,0,none⟩),.bool s.ua,.bool s.ub,.int .u32 s.epoch,.int .u64 s.last]
structure PairAt (w:World) (q:PB) (s:PS):Prop where
 cells:Has w q.p (.cells (pairC q s) 153 (0,0))
 cache:CacheAt w q.c q.mp q.room s.es
 main:MaAt w q.m s.pw
 rams:∃ pa la ca pb lb cb,RaAt w q.base q.m q.a q.sz pa la ca s.xa∧RaAt w q.base q.m q.b q.sz pb lb cb s.xb∧∀ k,pa=some ⟨k,0,none⟩→¬ pb=some ⟨k,0,none⟩
 ne:q.a≠q.b
 fit:(s.xa.length:Int)≤q.sz∧(s.xb.length:Int)≤q.sz
 form:37≤q.sz∧q.sz≤65536
 low:q.base≤q.p
def PFoot (q:PB) (w:World) (k:Nat):Prop:=k=q.p∨k=q.mp∨k=q.m∨k=q.a∨k=q.b∨(q.base≤k∧∃ cs,Has w k (.cells cs 5 (0,0)))
theorem PFoot.trans {q:PB} {w w1 w2:World} (h:Keep (PFoot q w) w w1) (k:Keep (PFoot q w1) w1 w2):Keep (PFoot q w) w w2 :=
 h.trans' k fun i hi hf=>Classical.byContradiction fun hn=>by
  rcases hf with e | e | e | e | e | ⟨hb,cs,hc⟩
  ·exact hn (Or.inl e)
  ·exact hn (Or.inr (Or.inl e))
  ·exact hn (Or.inr (Or.inr (Or.inl e)))
  ·exact hn (Or.inr (Or.inr (Or.inr (Or.inl e))))
  ·exact hn (Or.inr (Or.inr (Or.inr (Or.inr (Or.inl e)))))
  ·exact hn (Or.inr (Or.inr (Or.inr (Or.inr (Or.inr ⟨hb,cs,(h.block i hi hn).symm.trans hc⟩)))))
theorem PFoot.none {q:PB} {w w':World} (h:Keep (fun _=>False) w w'):Keep (PFoot q w) w w':=h.mono fun _ h=>h.elim
theorem PFoot.not {q:PB} {s:PS} {w:World} {k:Nat} {cs:Array Value} {t:TypeId} {f:Nat×Nat} (hk:Has w k (.cells cs t f)) (ht:t≠5) (hp:PairAt w q s) (h1:t≠153) (h2:t≠209) (h3:t≠214):¬ PFoot q w k:=by
 have no:∀ {cs':Array Value} {t':TypeId} {f':Nat×Nat} {b:Nat},Has w b (.cells cs' t' f')→t≠t'→k≠b:=by
  intro cs' t' f' b hb ht' e
  subst e
  have:=hk.inj hb
  simp only [Obj.cells.injEq] at this
  exact ht' this.2.1
 rintro (e | e | e | e | e | ⟨_,cs',hc⟩)
 ·exact no hp.cells h1 e
 ·obtain ⟨_,arr,clk,hm,_⟩:=hp.cache
  subst e
  have:=hk.inj hm
  cases this
 ·exact no (show Has w _ _ from hp.main) h2 e
 ·obtain ⟨_,_,_,_,_,_,ha,_,_⟩:=hp.rams
  exact no ha.cells h3 e
 ·obtain ⟨_,_,_,_,_,_,_,hb,_⟩:=hp.rams
  exact no hb.cells h3 e
 ·exact no hc ht rfl
theorem PFoot.has {q:PB} {s:PS} {w w':World} (h:Keep (PFoot q w) w w') {k:Nat} {cs:Array Value} {t:TypeId} {f:Nat×Nat} (hk:Has w k (.cells cs t f)) (ht:t≠5) (hp:PairAt w q s) (h1:t≠153) (h2:t≠209) (h3:t≠214):Has w' k (.cells cs t f) :=
 h.has hk (PFoot.not hk ht hp h1 h2 h3)
theorem PFoot.own {α:Type} {L:Lay α} {q:PB} {s:PS} {w w':World} (h:Keep (PFoot q w) w w') {b:Nat} {t:TypeId} {p:Option Addr} {l c:Nat} {xs:List α} (ho:OwnL L w b t p l c xs) (ht:t≠5) (hp:PairAt w q s) (h1:t≠153) (h2:t≠209) (h3:t≠214):OwnL L w' b t p l c xs:=by
 refine ho.keep h fun k hk=>?_
 rcases Own.cases ho with ⟨h0,_⟩ | ⟨b',cur,h0,_,hg,_⟩
 ·rw [h0] at hk;cases hk
 ·rw [h0] at hk;cases hk
  exact PFoot.not hg ht hp h1 h2 h3
theorem RaAt.keep {w w':World} {base m r:Nat} {size:Int} {p:Option Addr} {l c:Nat} {bs:List Int} {S:Nat→Prop} (h:RaAt w base m r size p l c bs) (k:Keep S w w') (h1:¬ S r) (h2:∀ k,p=some ⟨k,0,none⟩→¬ S k):RaAt w' base m r size p l c bs :=
 ⟨k.has h.cells h1,h.row.keep k h2⟩
theorem PairAt.keep {w w':World} {q:PB} {s:PS} (h:PairAt w q s) (k:Keep (fun _=>False) w w'):PairAt w' q s:=by
 obtain ⟨pa,la,ca,pb,lb,cb,ha,hb,hne⟩:=h.rams
 exact ⟨k.has h.cells (by simp),h.cache.keep k (by simp) (by simp),k.has h.main (by simp),⟨pa,la,ca,pb,lb,cb,ha.keep k (by simp) (by simp),hb.keep k (by simp) (by simp),hne⟩,h.ne,h.fit,h.form,h.low⟩
theorem PairAt.hb {w:World} {q:PB} {s:PS} (h:PairAt w q s):q.base≤w.heap.size:=by have:=h.cells.lt;have:=h.low;omega
def app1 (sz:Int) (x:Rec) (f:Bool) (s:PS):Int×PS :=
 match f with
 | false=>let r:=appP s.pw sz s.xa x;(r.1,{ s with pw:=r.2.1,xa:=r.2.2 })
 | true=>let r:=appP s.pw sz s.xb x;(r.1,{ s with pw:=r.2.1,xb:=r.2.2 })
def upS (s:PS) (f:Bool):List Bool:=[f,!f].filter fun g=>cond g s.ub s.ua
def eachS (sz:Int) (x:Rec):List Bool→PS→Int×PS
 | [],s=>(0,s)
 | f::fs,s=>if (app1 sz x f s).1≠0 then app1 sz x f s else eachS sz x fs (app1 sz x f s).2
def eachP (sz:Int) (x:Rec) (f:Bool) (s:PS):Int×PS:=eachS sz x (upS s f) s
def sideN (f:Bool):Int:=cond f 1 0
def ramB (q:PB) (f:Bool):Nat:=cond f q.b q.a
theorem appP_len {pw:Pow} {sz:Int} {bs:List Int} {x:Rec} (h:(bs.length:Int)≤sz):((appP pw sz bs x).2.2.length:Int)≤sz:=by
 unfold appP
 split
 ·exact h
 ·split
  ·exact h
  ·rename_i h1 h2
   have h2:¬ (sz-(bs.length:Int)) / 37<1:=h2
   have:37≤sz-(bs.length:Int):=by omega
   split <;> simp <;> omega
section calls
variable {w:World} {q:PB} {s:PS} {R:Value→World→Prop}
theorem pr_app (h:PairAt w q s) {x:Rec} {f:Bool} (hx:recGood x=true) (hK:∀ w',PairAt w' q (app1 q.sz x f s).2→Keep (PFoot q w) w w'→R (.int .i64 (app1 q.sz x f s).1) w') :
  zB Tryz.prog 165 #[.pointer (some ⟨ramB q f,0,none⟩),.agg (recV x)] w R:=by
 obtain ⟨pa,la,ca,pb,lb,cb,ha,hb,hne⟩:=h.rams
 have inj:∀ {k:Nat} {cs cs':Array Value} {t t':TypeId} {f f':Nat×Nat},Has w k (.cells cs t f)→Has w k (.cells cs' t' f')→t=t':=by
  intro k cs cs' t t' f f' h1 h2
  have:=h1.inj h2
  simp only [Obj.cells.injEq] at this
  exact this.2.1
 have nmap:∀ {k:Nat} {cs:Array Value} {t:TypeId} {f:Nat×Nat},Has w k (.cells cs t f)→k≠q.mp:=by
  intro k cs t f h1 e
  obtain ⟨_,arr,clk,hm,_⟩:=h.cache
  subst e
  cases h1.inj hm
 have rowF:∀ {p:Option Addr} {l c:Nat} {bs:List Int},OwnL byLay w q.base 5 p l c bs→∀ k,p=some ⟨k,0,none⟩→q.base≤k∧∃ cs,Has w k (.cells cs 5 (0,0)):=by
  intro p l c bs ho k hk
  rcases Own.cases ho with ⟨h0,_⟩ | ⟨b',cur,h0,hb',hg,_⟩
  ·rw [h0] at hk;cases hk
  ·rw [h0] at hk;cases hk;exact ⟨hb',cur,hg⟩
 have c1:∀ {r:Nat} {p:Option Addr} {l c:Nat} {bs:List Int},RaAt w q.base q.m r q.sz p l c bs→∀ {w':World},Keep (fun k=>k=q.m∨k=r∨p=some ⟨k,0,none⟩) w w'→(r=q.a∨r=q.b) →
   Keep (PFoot q w) w w'∧Has w' q.p (.cells (pairC q s) 153 (0,0))∧CacheAt w' q.c q.mp q.room s.es:=by
  intro r p l c bs hr w' k hrr
  have hS:∀ {k':Nat} {cs:Array Value} {t:TypeId} {f:Nat×Nat},Has w k' (.cells cs t f)→t≠209→t≠214→t≠5→¬ (k'=q.m∨k'=r∨p=some ⟨k',0,none⟩):=by
   intro k' cs t f hk h1 h2 h3 hor
   rcases hor with e | e | e
   ·subst e;exact h1 (inj hk (show Has w _ _ from h.main))
   ·subst e;exact h2 (inj hk hr.cells)
   ·exact bytes_ne hr.row hk h3 e
  have hMap:¬ (q.mp=q.m∨q.mp=r∨p=some ⟨q.mp,0,none⟩):=by
   rintro (e | e | e)
   ·exact nmap (show Has w _ _ from h.main) e.symm
   ·exact nmap hr.cells e.symm
   ·obtain ⟨_,cs,hc⟩:=rowF hr.row _ e
    exact nmap hc rfl
  refine ⟨k.mono ?_,k.has h.cells (hS h.cells (by decide) (by decide) (by decide)),h.cache.keep k (hS h.cache.1 (by decide) (by decide) (by decide)) hMap⟩
  rintro k' (e | e | e)
  ·exact Or.inr (Or.inr (Or.inl e))
  ·rcases hrr with h1 | h1
   ·exact Or.inr (Or.inr (Or.inr (Or.inl (e.trans h1))))
   ·exact Or.inr (Or.inr (Or.inr (Or.inr (Or.inl (e.trans h1)))))
  ·exact Or.inr (Or.inr (Or.inr (Or.inr (Or.inr (rowF hr.row _ e)))))
 have other:∀ {r r':Nat} {p p':Option Addr} {l l' c c':Nat} {bs bs':List Int},RaAt w q.base q.m r q.sz p l c bs→RaAt w q.base q.m r' q.sz p' l' c' bs'→r≠r'→(∀ k,p=some ⟨k,0,none⟩→¬ p'=some ⟨k,0,none⟩) →
   ∀ {w':World},Keep (fun k=>k=q.m∨k=r∨p=some ⟨k,0,none⟩) w w'→RaAt w' q.base q.m r' q.sz p' l' c' bs':=by
  intro r r' p p' l l' c c' bs bs' hr hr' hn hpp w' k
  refine hr'.keep k ?_ ?_
  ·rintro (e | e | e)
   ·subst e;exact absurd (inj hr'.cells (show Has w _ _ from h.main)) (by decide)
   ·exact hn e.symm
   ·exact bytes_ne hr.row hr'.cells (by decide) e
  ·rintro k' hk (e | e | e)
   ·subst e;exact bytes_ne hr'.row (show Has w _ _ from h.main) (by decide) hk
   ·subst e;exact bytes_ne hr'.row hr.cells (by decide) hk
   ·exact hpp _ e hk
 cases f
 ·show zB Tryz.prog 165 #[.pointer (some ⟨q.a,0,none⟩),.agg (recV x)] w R
  refine ra_Append ha h.main hx h.form.1 h.form.2 (by rw [ha.row.length];exact h.fit.1) h.hb fun p' l' c' w' hr hm hp k=>?_
  obtain ⟨kf,hc,hca⟩:=c1 ha k (Or.inl rfl)
  refine hK w' ⟨hc,hca,hm,⟨p',l',c',pb,lb,cb,hr,other ha hb h.ne hne k,?_⟩,h.ne,⟨appP_len h.fit.1,h.fit.2⟩,h.form,h.low⟩ kf
  intro k' hk' hpb
  rcases hp with e | ⟨k2,h2,e⟩
  ·exact hne k' (e ▸ hk') hpb
  ·rw [e] at hk'
   cases hk'
   have:=(hb.row.lt hpb).2
   omega
 ·show zB Tryz.prog 165 #[.pointer (some ⟨q.b,0,none⟩),.agg (recV x)] w R
  refine ra_Append hb h.main hx h.form.1 h.form.2 (by rw [hb.row.length];exact h.fit.2) h.hb fun p' l' c' w' hr hm hp k=>?_
  obtain ⟨kf,hc,hca⟩:=c1 hb k (Or.inr rfl)
  refine hK w' ⟨hc,hca,hm,⟨pa,la,ca,p',l',c',other hb ha h.ne.symm (fun k h1 h2=>hne k h2 h1) k,hr,?_⟩,h.ne,⟨h.fit.1,appP_len h.fit.2⟩,h.form,h.low⟩ kf
  intro k' hpa hk'
  rcases hp with e | ⟨k2,h2,e⟩
  ·exact hne k' hpa (e ▸ hk')
  ·rw [e] at hk'
   cases hk'
   have:=(ha.row.lt hpa).2
   omega
def pLay:Lay Nat:=⟨1,fun b=>[.pointer (some ⟨b,0,none⟩)],fun _=>rfl,fun y v hv=>by rw [List.mem_singleton.1 hv];rfl,by decide⟩
def iLay:Lay Int:=⟨1,fun y=>[.int .i64 y],fun _=>rfl,fun y v hv=>by rw [List.mem_singleton.1 hv];rfl,by decide⟩
theorem pLayT:LayT Tryz.prog pLay 109 104 8:=⟨by kernel_rfl,⟨(Tryz.prog.info? 104).get (by kernel_rfl),((Tryz.prog.info? 104).get (by kernel_rfl)).zero.get (by kernel_rfl),by kernel_rfl,by kernel_rfl,by kernel_rfl,by kernel_rfl,by kernel_rfl⟩⟩
theorem bsl_p1 (b:Nat) (w:World):(Instr.buildSlice 109 1 #[(0,.pointer (some ⟨b,0,none⟩))]).run Tryz.prog w=.ok (.slice (some ⟨w.heap.size,0,none⟩) 1 1) (w.alloc (.cells #[.pointer (some ⟨b,0,none⟩)] 104)) :=
 run_buildSlice w 109 104 1 _ #[.pointer (some ⟨b,0,none⟩)] ((Tryz.prog.info? 104).get (by kernel_rfl)) (((Tryz.prog.info? 104).get (by kernel_rfl)).zero.get (by kernel_rfl)) (by kernel_rfl) (by kernel_rfl) (by kernel_rfl) (by decide +kernel) (by decide +kernel) (by kernel_rfl)
theorem bsl_i2 (x y:Int) (w:World):(Instr.buildSlice 69 2 #[(0,.int .i64 x),(1,.int .i64 y)]).run Tryz.prog w=.ok (.slice (some ⟨w.heap.size,0,none⟩) 2 2) (w.alloc (.cells #[.int .i64 x,.int .i64 y] 3)) :=
 run_buildSlice w 69 3 2 _ #[.int .i64 x,.int .i64 y] ((Tryz.prog.info? 3).get (by kernel_rfl)) (((Tryz.prog.info? 3).get (by kernel_rfl)).zero.get (by kernel_rfl)) (by kernel_rfl) (by kernel_rfl) (by kernel_rfl) (by decide +kernel) (by decide +kernel) (by kernel_rfl)
theorem pr_side (n:Int) (hK:R (.bool (decide (n=0) || decide (n=1))) w):zB Tryz.prog 169 #[.int .i64 n] w R:=by
 apply C_mirror_side
 unfold F_mirror_side
 refine ⟨rfl,rfl,?_⟩
 refine Ret_nil.2 ?_
 have e:(cond (n==0) true (n==1))=(decide (n=0) || decide (n=1)):=by
  have hd:∀ k:Int,(n==k)=decide (n=k):=fun k=>by rw [Bool.eq_iff_iff];simp
  rw [hd,hd]
  cases decide (n=0) <;> rfl
 rw [e];exact hK
theorem pr_Up (h:PairAt w q s) (f:Bool) (hK:∀ p l c w',OwnL pLay w' w.heap.size 104 p l c ((upS s f).map (ramB q))→Keep (fun _=>False) w w'→R (.slice p l c) w'):zB Tryz.prog 159 #[.pointer (some ⟨q.p,0,none⟩),.int .i64 (sideN f)] w R:=by
 apply C_mirror_Pair_Up
 unfold F_mirror_Pair_Up
 refine pr_side _ ?_
 refine OpB_bool.2 ?_
 have e:(!(decide (sideN f=0) || decide (sideN f=1)))=false:=by cases f <;> rfl
 rw [e]
 refine (Cb_false (p:=_)).2 ?_
 have e1:IntKind.wrap .i64 (1-sideN f)=sideN (!f):=by cases f <;> decide +kernel
 rw [e1]
 refine ⟨_,_,bsl_i2 _ _ w,zC.2 ?_⟩
 have k0:Keep (fun _=>False) w (w.alloc (.cells #[.int .i64 (sideN f),.int .i64 (sideN !f)] 3)):=Keep.new _ _ _
 have hrow:Has (w.alloc (.cells #[.int .i64 (sideN f),.int .i64 (sideN !f)] 3)) w.heap.size (.cells #[.int .i64 (sideN f),.int .i64 (sideN !f)] 3 (0,0)):=Has.new _ _
 have o0:OwnL iLay _ w.heap.size 3 (some ⟨w.heap.size,0,none⟩) 2 2 [sideN f,sideN !f]:=OwnL.mk (xs:=[sideN f,sideN !f]) (Nat.le_refl _) hrow (by simp [maxLen]) rfl
 generalize w.alloc (.cells #[.int .i64 (sideN f),.int .i64 (sideN !f)] 3)=w0 at *
 have hp:=h.cells
 generalize hn:w.heap.size=n at *
 refine LoopC_of (σ:=(Option Addr×Nat×Nat)×Int×Unit) (fun st w'=>∃ k:Nat,st.2.1=(k:Int)∧k≤2∧OwnL pLay w' (n+1) 104 st.1.1 st.1.2.1 st.1.2.2 ((([f,!f].take k).filter fun g=>cond g s.ub s.ua).map (ramB q))∧Keep (fun k=>n+1≤k) w0 w')
  (fun st _=>(2-st.2.1).toNat) ⟨0,rfl,by omega,OwnL.nil,Keep.refl _ _⟩ ?_
 rintro _ ⟨⟨p1,l1,c1⟩,i1,u⟩ w1 ⟨k,hi,hk,o1,k1⟩
 simp only at hi o1 ⊢
 subst hi
 have hsz0:n+1≤w0.heap.size:=hrow.lt
 have hsz1:n+1≤w1.heap.size:=Nat.le_trans hsz0 k1.size
 have hp1:=k1.has (k0.has hp (by simp)) (by have:=hp.lt;omega)
 have ow1:=o0.keep k1 fun k hk=>by cases hk;omega
 have kw:Keep (fun _=>False) w w1:=k0.trans' k1 fun i hi hh=>by rw [hn] at hi;omega
 refine Cb_of (fun hc=>?_) (fun hc=>?_)
 ·have hc:k<2:=by simp only [decide_eq_true_eq] at hc;omega
  obtain ⟨g,hg⟩:∃ g,[f,!f][k]? = some g:=⟨_,List.getElem?_eq_getElem (by simpa using hc)⟩
  have hgi:[sideN f,sideN !f][k]? = some (sideN g):=by
   match k,hc,hg with
   | 0,_,hg=>cases hg;rfl
   | 1,_,hg=>cases hg;rfl
  have hl1:=o1.length
  have hlen:((([f,!f].take k).filter fun g=>cond g s.ub s.ua).map (ramB q)).length≤2:=by
   rw [List.length_map]
   exact Nat.le_trans (List.length_filter_le _ _) (by rw [List.length_take];simp;omega)
  have ek:IntKind.wrap .i64 ((k:Int)+1)=((k+1:Nat):Int):=by rw [wrapI (by omega) (by omega)];omega
  refine ow1.ld0 (i:=(k:Int)) (n:=1) (x:=sideN g) (v:=.int .i64 (sideN g)) rfl (by omega) (by simpa using hgi) rfl ?_
  refine zA.2 ?_
  have hb2:0≤sideN g∧sideN g<2:=by cases g <;> decide
  refine ⟨hb2,?_⟩
  refine LdV_has (v:=.bool (cond g s.ub s.ua)) hp1 (by cases g <;> rfl) ?_
  refine OpB_bool.2 ?_
  have etk:([f,!f].take (k+1))=[f,!f].take k++[g]:=by rw [List.take_add_one,hg];rfl
  have hmu:((2:Int)-IntKind.wrap .i64 ((k:Int)+1)).toNat<((2:Int)-(k:Int)).toNat:=by rw [ek];omega
  cases hu:cond g s.ub s.ua
  ·refine (Cb_false (p:=_)).2 ?_
   refine ⟨_,hmu,⟨k+1,ek,by omega,?_,k1⟩,rfl⟩
   rw [etk,List.filter_append,List.filter_cons_of_neg (by simp [hu]),List.filter_nil,List.append_nil]
   exact o1
  ·refine (Cb_true (q:=_)).2 ?_
   refine ⟨hb2,?_⟩
   refine LdV_has (v:=.pointer (some ⟨ramB q g,0,none⟩)) hp1 (by cases g <;> rfl) ?_
   refine OpN_some.2 ?_
   refine ⟨_,_,bsl_p1 _ w1,zC.2 ?_⟩
   have k2:Keep (fun _=>False) w1 (w1.alloc (.cells #[.pointer (some ⟨ramB q g,0,none⟩)] 104)):=Keep.new _ _ _
   have h2:Has (w1.alloc (.cells #[.pointer (some ⟨ramB q g,0,none⟩)] 104)) w1.heap.size (.cells #[.pointer (some ⟨ramB q g,0,none⟩)] 104 (0,0)):=Has.new _ _
   generalize w1.alloc (.cells #[.pointer (some ⟨ramB q g,0,none⟩)] 104)=w2 at *
   obtain ⟨p5,c5,w5,hr,o5,k5,_⟩:=run_appendF1 pLayT (o1.keep k2 (by simp)) (y:=ramB q g) h2 rfl (ty:=109) (by omega) (by simp only [maxLen];omega) (by have:=k2.size;omega) (c2:=1)
   refine ⟨_,_,hr,zC.2 ?_⟩
   refine ⟨_,hmu,⟨k+1,ek,by omega,?_,(k1.trans (k2.mono (by simp))).trans (k5.mono fun k hk=>(o1.lt hk).1)⟩,rfl⟩
   rw [etk,List.filter_append,List.filter_cons_of_pos (by simp [hu]),List.filter_nil,List.map_append]
   exact o5
 ·have hc:k=2:=by
   simp only [decide_eq_false_iff_not] at hc
   omega
  subst hc
  refine Ret_nil.2 (hK p1 l1 c1 w1 (o1.rebase (by omega)) kw)
theorem pr_each (h:PairAt w q s) (f:Bool) {x:Rec} (hx:recGood x=true) (hK:∀ w',PairAt w' q (eachP q.sz x f s).2→Keep (PFoot q w) w w'→R (.int .i64 (eachP q.sz x f s).1) w'):zB Tryz.prog 222 #[.pointer (some ⟨q.p,0,none⟩),.int .i64 (sideN f),.agg (recV x)] w R:=by
 apply C_mirror_Pair_each
 unfold F_mirror_Pair_each
 refine alc_fresh fun w1 hb1 k1 z1=>?_
 have h1:=h.keep k1
 refine pr_Up h1 f fun p l c w2 o2 k2=>?_
 refine zC.2 ?_
 have h2:=h1.keep k2
 have k02:=k1.trans k2
 have hb2:=k2.has hb1 (by simp)
 have hl:=o2.length
 rw [List.length_map] at hl
 unfold eachP at hK
 generalize upS s f=fs at *
 refine LoopC_of (σ:=Int×Unit) (fun st w'=>∃ (k:Nat) (s':PS),st.1=(k:Int)∧k≤l∧PairAt w' q s'∧eachS q.sz x (fs.drop k) s'=eachS q.sz x fs s∧Keep (PFoot q w) w w'∧OwnL pLay w' w1.heap.size 104 p l c (fs.map (ramB q))∧Has w' w.heap.size (.cells (recV x) 246 (0,0)))
  (fun st _=>(l-st.1).toNat) ⟨0,s,rfl,by omega,h2,rfl,PFoot.none k02,o2,hb2⟩ ?_
 rintro _ ⟨i,u⟩ w3 ⟨k,s',hi,hk,h3,he,k3,o3,hb3⟩
 simp only at hi ⊢
 subst hi
 refine Cb_of (fun hc=>?_) (fun hc=>?_)
 ·have hc:k<l:=by simpa using hc
  obtain ⟨g,hg⟩:∃ g,fs[k]? = some g:=⟨_,List.getElem?_eq_getElem (by omega)⟩
  refine o3.ld0 (i:=(k:Int)) (n:=1) (x:=ramB q g) (v:=.pointer (some ⟨ramB q g,0,none⟩)) rfl (by omega) (by simp [hg]) rfl ?_
  refine OpN_some.2 ?_
  refine LdA_all hb3 rfl ?_
  refine pr_app h3 (f:=g) hx fun w4 h4 k4=>?_
  refine zA.2 ?_
  have ed:fs.drop k=g::fs.drop (k+1):=by
   rw [List.drop_eq_getElem_cons (by omega)]
   congr 1
   have:=List.getElem?_eq_getElem (l:=fs) (i:=k) (by omega)
   rw [hg] at this
   exact (Option.some.inj this).symm
  rw [ed] at he
  have hst:eachS q.sz x (g::fs.drop (k+1)) s'=if (app1 q.sz x g s').1≠0 then app1 q.sz x g s' else eachS q.sz x (fs.drop (k+1)) (app1 q.sz x g s').2:=rfl
  rw [hst] at he
  have k34:=PFoot.trans k3 k4
  refine Cb_of (fun hz=>?_) (fun hz=>?_)
  ·have hz:(app1 q.sz x g s').1≠0:=by simpa using hz
   rw [if_pos hz] at he
   rw [← he] at hK
   exact Ret_nil.2 (hK w4 h4 k34)
  ·have hz:(app1 q.sz x g s').1=0:=by simpa using hz
   rw [if_neg (by simp [hz])] at he
   have ek:IntKind.wrap .i64 ((k:Int)+1)=((k+1:Nat):Int):=by
    have:l≤maxLen:=Nat.le_trans o3.cap.1 o3.cap.2
    simp only [maxLen] at this
    rw [wrapI (by omega) (by omega)];omega
   refine ⟨_,by show ((l:Int)-IntKind.wrap .i64 ((k:Int)+1)).toNat<((l:Int)-(k:Int)).toNat;rw [ek];omega,⟨k+1,_,ek,by omega,h4,he,k34,?_,PFoot.has k4 hb3 (by decide) h3 (by decide) (by decide) (by decide)⟩,rfl⟩
   refine o3.keep k4 fun k' hk'=>?_
   rcases Own.cases o3 with ⟨h0,_⟩ | ⟨b',cur,h0,_,hg',_⟩
   ·rw [h0] at hk';cases hk'
   ·rw [h0] at hk';cases hk'
    intro hf
    have:=PFoot.has (w':=w3.upd k' (.cells #[] 0 (0,0))) (Keep.mono (Keep.one w3 k' (.cells #[] 0 (0,0))) fun _ e=>e ▸ hf) hg' (by decide) h3 (by decide) (by decide) (by decide)
    have h5:Has (w3.upd k' (.cells #[] 0 (0,0))) k' (.cells #[] 0 (0,0)):=hg'.upd_same _
    have h6:=this.inj h5
    simp only [Obj.cells.injEq] at h6
    exact absurd h6.2.1 (by decide)
 ·have hc:k=l:=by
   have:¬ ((k:Int)<(l:Int)):=by simpa using hc
   omega
  subst hc
  have:fs.drop k=[]:=List.drop_of_length_le (by omega)
  rw [this] at he
  have he:(0,s')=eachS q.sz x fs s:=he
  rw [← he] at hK
  exact Ret_nil.2 (hK w3 h3 k3)
end calls
theorem equalIn_ptr {P:Program} (d:Nat) {t e:TypeId} {j:TypeInfo} {a b:Nat} {ca cb:Array Value} {ta tb:TypeId} {w:World} (hp:P.underlying t=some (.pointer e)) (hte:P.info? e=some j) (hsz:j.size≠0) (hne:a≠b) (ha:Has w a (.cells ca ta (0,0))) (hb:Has w b (.cells cb tb (0,0))) :
  (Op.equalIn (d+1) t (.pointer (some ⟨a,0,none⟩)) (.pointer (some ⟨b,0,none⟩))).run P w=.ok false w:=by
 have hs:=run_sameAddr_other (P:=P) w (a:=⟨a,0,none⟩) (b:=⟨b,0,none⟩) (fun e=>by injection e with e;exact hne e) ha hb
 simp [Op.equalIn,run_underlying hp,typeInfo,sizeOf,hte,hsz,hs]
theorem eql_ptr_gen {P:Program} {t e:TypeId} {j:TypeInfo} {a b:Nat} {ca cb:Array Value} {ta tb:TypeId} {w:World} (hp:P.underlying t=some (.pointer e)) (hte:P.info? e=some j) (hsz:j.size≠0) (hne:a≠b) (ha:Has w a (.cells ca ta (0,0))) (hb:Has w b (.cells cb tb (0,0))) :
  (binOp .eql t (.pointer (some ⟨a,0,none⟩)) (.pointer (some ⟨b,0,none⟩))).run P w=.ok (.bool false) w:=by
 have:=equalIn_ptr 9999 hp hte hsz hne ha hb
 simp only [binOp]
 simp [Op.equal,Op.maxDepth,this]
theorem eql_ptr {a b:Nat} {ca cb:Array Value} {ta tb:TypeId} {w:World} (hne:a≠b) (ha:Has w a (.cells ca ta (0,0))) (hb:Has w b (.cells cb tb (0,0))) :
  (binOp .eql 104 (.pointer (some ⟨a,0,none⟩)) (.pointer (some ⟨b,0,none⟩))).run Tryz.prog w=.ok (.bool false) w:=by
 have hm:(Tryz.prog.info? 214).map (·.size)=some 3:=by kernel_rfl
 cases hj:Tryz.prog.info? 214 with
 | none=>rw [hj] at hm;cases hm
 | some j =>
  rw [hj] at hm
  have hz:j.size=3:=Option.some.inj hm
  exact eql_ptr_gen (by kernel_rfl) hj (by rw [hz];decide) hne ha hb
theorem EqB_ptr {a b:Nat} {ca cb:Array Value} {ta tb:TypeId} {w:World} {x y:Operand} {K:Bool→Prop} (hne:a≠b) (ha:Has w a (.cells ca ta (0,0))) (hb:Has w b (.cells cb tb (0,0))) (hK:K false) :
  EqB Tryz.prog .eql 104 x y (.pointer (some ⟨a,0,none⟩)) (.pointer (some ⟨b,0,none⟩)) (At w) K:=by
 refine ⟨false,fun w' hw=>?_,hK⟩
 obtain ⟨d,rfl⟩:=hw
 have hg:Tryz.prog.eqGuardType Tryz.prog.depth 104=false:=by kernel_rfl
 have:=eql_ptr (w:=w.dr d) hne ha hb
 simp only [eqGuard,Sem.run_bind,run_program,hg,Bool.not_false,if_true,Result.andThen_ok,this]
 try simp [Sem.run_bind,Sem.run_pure,run_program,hg,this]
def putP (room sz:Int) (s:PS) (f:Bool) (lba:Int) (d:Sec):(Int×Int)×PS :=
 if lba<0∨2147483647<lba then ((0,2),s)
 else if (cond f s.ub s.ua)=false then ((0,13),s)
 else if mlook s.es lba=none∧room≤(s.es.length:Int) then ((0,9),s)
 else
  let v:=IntKind.wrap .u64 (s.last+1)
  let r:=eachP sz ⟨1,v,lba,d⟩ f { s with last:=v }
  if r.1≠0 then ((0,r.1),r.2) else ((v,0),{ r.2 with es:=if putE room s.es lba v=0 then ins s.es lba (d,v) else s.es })
theorem app1_same {sz:Int} {x:Rec} {f:Bool} {s:PS}:(app1 sz x f s).2.es=s.es∧(app1 sz x f s).2.last=s.last∧(app1 sz x f s).2.epoch=s.epoch∧(app1 sz x f s).2.ua=s.ua∧(app1 sz x f s).2.ub=s.ub:=by
 cases f <;> exact ⟨rfl,rfl,rfl,rfl,rfl⟩
theorem eachS_same {sz:Int} {x:Rec}:∀ (fs:List Bool) (s:PS),(eachS sz x fs s).2.es=s.es∧(eachS sz x fs s).2.last=s.last∧(eachS sz x fs s).2.epoch=s.epoch∧(eachS sz x fs s).2.ua=s.ua∧(eachS sz x fs s).2.ub=s.ub
 | [],_=>⟨rfl,rfl,rfl,rfl,rfl⟩
 | f::fs,s=>by
  have e:eachS sz x (f::fs) s=if (app1 sz x f s).1≠0 then app1 sz x f s else eachS sz x fs (app1 sz x f s).2:=rfl
  obtain ⟨a1,a2,a3,a4,a5⟩:=app1_same (sz:=sz) (x:=x) (f:=f) (s:=s)
  rw [e]
  split
  ·exact ⟨a1,a2,a3,a4,a5⟩
  ·obtain ⟨b1,b2,b3,b4,b5⟩:=eachS_same fs (app1 sz x f s).2 (sz:=sz) (x:=x)
   exact ⟨b1.trans a1,b2.trans a2,b3.trans a3,b4.trans a4,b5.trans a5⟩
theorem eachP_same {sz:Int} {x:Rec} {f:Bool} (s:PS):(eachP sz x f s).2.es=s.es∧(eachP sz x f s).2.last=s.last∧(eachP sz x f s).2.epoch=s.epoch∧(eachP sz x f s).2.ua=s.ua∧(eachP sz x f s).2.ub=s.ub:=eachS_same _ _
section calls
variable {w:World} {q:PB} {s:PS} {R:Value→World→Prop}
theorem PairAt.setC (h:PairAt w q s) {e':List (Int×Ent)} {la ep:Int} {ua ub:Bool} (he:e'=s.es):PairAt (w.upd q.p (.cells (pairC q ⟨e',la,ep,ua,ub,s.pw,s.xa,s.xb⟩) 153 (0,0))) q ⟨e',la,ep,ua,ub,s.pw,s.xa,s.xb⟩:=by
 subst he
 obtain ⟨pa,lx,ca,pb,lb,cb,ha,hb,hne⟩:=h.rams
 have k:=Keep.one w q.p (.cells (pairC q ⟨s.es,la,ep,ua,ub,s.pw,s.xa,s.xb⟩) 153 (0,0))
 have inj:∀ {k:Nat} {cs:Array Value} {t:TypeId} {f:Nat×Nat},Has w k (.cells cs t f)→t≠153→¬ k=q.p:=by
  intro k cs t f h1 ht e
  subst e
  have:=h1.inj h.cells
  simp only [Obj.cells.injEq] at this
  exact ht this.2.1
 have hmap:¬ q.mp=q.p:=by
  obtain ⟨_,arr,clk,hm,_⟩:=h.cache
  intro e
  rw [e] at hm
  cases hm.inj h.cells
 exact ⟨h.cells.upd_same _,h.cache.keep k (inj h.cache.1 (by decide)) hmap,k.has h.main (inj (show Has w _ _ from h.main) (by decide)),
  ⟨pa,lx,ca,pb,lb,cb,ha.keep k (inj ha.cells (by decide)) (fun k' hk e=>by subst e;exact bytes_ne ha.row h.cells (by decide) hk),hb.keep k (inj hb.cells (by decide)) (fun k' hk e=>by subst e;exact bytes_ne hb.row h.cells (by decide) hk),hne⟩,h.ne,h.fit,h.form,h.low⟩
theorem pr_Take (h:PairAt w q s) (hK:∀ w',PairAt w' q { s with last:=IntKind.wrap .u64 (s.last+1) }→Keep (PFoot q w) w w'→R (.int .u64 (IntKind.wrap .u64 (s.last+1))) w'):zB Tryz.prog 158 #[.pointer (some ⟨q.p,0,none⟩)] w R:=by
 apply C_mirror_Pair_Take
 unfold F_mirror_Pair_Take
 refine LdV_has (v:=.int .u64 s.last) h.cells rfl ?_
 refine zA.2 ?_
 refine StV_of h.cells (by show 6<7;decide) rfl ?_
 have h2:=h.setC (e':=s.es) (la:=IntKind.wrap .u64 (s.last+1)) (ep:=s.epoch) (ua:=s.ua) (ub:=s.ub) rfl
 have k2:Keep (PFoot q w) w (w.upd q.p (.cells (pairC q ⟨s.es,IntKind.wrap .u64 (s.last+1),s.epoch,s.ua,s.ub,s.pw,s.xa,s.xb⟩) 153 (0,0))):=(Keep.one w q.p _).mono fun _ e=>Or.inl e
 refine LdV_has (v:=.int .u64 (IntKind.wrap .u64 (s.last+1))) h2.cells rfl ?_
 exact zA.2 (Ret_nil.2 (hK _ h2 k2))
theorem pr_Full (h:PairAt w q s) (hK:∀ d,R (.bool (decide (q.room≤(s.es.length:Int)))) (w.dr d)):zB Tryz.prog 155 #[.pointer (some ⟨q.p,0,none⟩)] w R:=by
 apply C_mirror_Pair_Full
 unfold F_mirror_Pair_Full
 refine LdV_has (v:=.pointer (some ⟨q.c,0,none⟩)) h.cells rfl ?_
 refine OpN_some.2 ?_
 exact cache_Full h.cache fun d=>OpB_bool.2 (Ret_nil.2 (hK d))
def getV (es:List (Int×Ent)) (lba:Int):Sec×Int×Int:=match mlook es lba with
 | some e=>(e.1,e.2,0)
 | none=>(sec [],0,10)
theorem cache_Get' {c m:Nat} {room:Int} {es:List (Int×Ent)} {lba:Int} {w:World} {R:Value→World→Prop} (h:CacheAt w c m room es)
  (hK:∀ w',Keep (fun _=>False) w w'→R (.tuple #[.agg (secV (getV es lba).1),.int .u64 (getV es lba).2.1,.int .i64 (getV es lba).2.2]) w') :
  zB Tryz.prog 225 #[.pointer (some ⟨c,0,none⟩),.int .i64 lba] w R:=by
 refine cache_Get h fun w2 k2=>?_
 have:=hK w2 k2
 unfold getV at this
 cases hl:mlook es lba <;> simp only [hl] at this ⊢ <;> exact this
theorem pr_Get (h:PairAt w q s) {lba:Int} (hK:∀ w',Keep (fun _=>False) w w'→R (.tuple #[.agg (secV (getV s.es lba).1),.int .u64 (getV s.es lba).2.1,.int .i64 (getV s.es lba).2.2]) w'):zB Tryz.prog 154 #[.pointer (some ⟨q.p,0,none⟩),.int .i64 lba] w R:=by
 apply C_mirror_Pair_Get
 unfold F_mirror_Pair_Get
 refine alc_fresh fun w1 hb1 k1 z1=>?_
 have h1:=h.keep k1
 refine LdV_has (v:=.pointer (some ⟨q.c,0,none⟩)) h1.cells rfl ?_
 refine OpN_some.2 ?_
 refine cache_Get' h1.cache fun w2 k2=>?_
 refine T3_mk.2 (OpA_agg.2 ⟨rfl,zA.2 (zA.2 ?_)⟩)
 have hb2:=k2.has hb1 (by simp)
 refine StA_all hb2 rfl (by rw [zc_sec];rfl) (one_secV _) ?_
 refine LdA_all (hb2.upd_same _) rfl ?_
 refine Ret_nil.2 (hK _ ((k1.trans k2).upd (by omega) _))
theorem pr_New {base m a b:Nat} {room sz:Int} {pw:Pow} {xa xb:List Int} (hm:MaAt w m pw) (hr:∃ pa la ca pb lb cb,RaAt w base m a sz pa la ca xa∧RaAt w base m b sz pb lb cb xb∧∀ k,pa=some ⟨k,0,none⟩→¬ pb=some ⟨k,0,none⟩)
  (hne:a≠b) (hfit:(xa.length:Int)≤sz∧(xb.length:Int)≤sz) (hform:37≤sz∧sz≤65536) (h1:1≤room) (h2:room≤64) (hbase:base≤w.heap.size)
  (hK:∀ p c mp w',PairAt w' ⟨p,c,mp,m,a,b,base,room,sz⟩ ⟨[],0,0,true,true,pw,xa,xb⟩→Keep (fun _=>False) w w'→w.heap.size≤p→w.heap.size≤mp→R (.tuple #[.pointer (some ⟨p,0,none⟩),.int .i64 0]) w') :
  zB Tryz.prog 73 #[.pointer (some ⟨a,0,none⟩),.pointer (some ⟨b,0,none⟩),.int .i64 room] w R:=by
 apply C_mirror_New
 unfold F_mirror_New
 apply C_mirror_Resume
 unfold F_mirror_Resume
 refine cache_New h1 h2 fun c mp w1 hc k1 hcb hmb=>?_
 refine T2_mk.2 ?_
 refine Or.inr ⟨c,0,rfl,?_⟩
 refine zA.2 ⟨rfl,rfl,?_⟩
 obtain ⟨pa,la,ca,pb,lb,cb,ha,hb,hpp⟩:=hr
 refine EqB_ptr hne (k1.has ha.cells (by simp)) (k1.has hb.cells (by simp)) ?_
 refine ⟨rfl,rfl,?_⟩
 refine (Cb_false (p:=_)).2 ?_
 refine ⟨_,_,run_makeMap,?_⟩
 refine OpM_map.2 ?_
 have k2:Keep (fun _=>False) w1 (w1.alloc (.map #[] 0)):=Keep.new _ _ _
 generalize w1.alloc (.map #[] 0)=w2 at *
 refine LoopC_of (σ:=Int×Unit) (fun st w'=>st.1=0∧w'=w2) (fun _ _=>0) ⟨rfl,rfl⟩ ?_
 rintro _ ⟨i,u⟩ w3 ⟨hi,hw⟩
 simp only at hi ⊢
 subst hi
 rw [hw]
 clear hw
 refine (Cb_false (p:=_)).2 ?_
 have e0:decide (((0:Nat):Int)>room)=false:=decide_eq_false (by omega)
 rw [e0]
 refine (Cb_false (p:=_)).2 ?_
 refine LoopC_of (σ:=Int×Unit) (fun st w'=>st.1=0∧w'=w2) (fun _ _=>0) ⟨rfl,rfl⟩ ?_
 rintro _ ⟨i,u⟩ w3 ⟨hi,hw⟩
 simp only at hi ⊢
 subst hi
 rw [hw]
 clear hw
 refine (Cb_false (p:=_)).2 ?_
 refine DoQ_of (v:=.agg #[.pointer (some ⟨a,0,none⟩),.pointer (some ⟨b,0,none⟩)]) (fun d=>run_build _ _ _ _ (by kernel_rfl)) ?_
 refine OpA_agg.2 ⟨rfl,?_⟩
 refine DoQ_of (v:=.agg #[.bool true,.bool true]) (fun d=>run_build _ _ _ _ (by kernel_rfl)) ?_
 refine OpA_agg.2 ⟨rfl,?_⟩
 refine DoQ_of (v:=.agg (pairC ⟨0,c,mp,m,a,b,base,room,sz⟩ ⟨[],0,0,true,true,pw,xa,xb⟩)) (fun d=>run_build _ _ _ _ (by kernel_rfl)) ?_
 refine OpA_agg.2 ⟨rfl,?_⟩
 refine alc_fresh fun w3 hb3 k3 z3=>?_
 refine Ret_nil.2 ?_
 refine T2_mk.2 ?_
 refine Or.inr ⟨_,0,rfl,?_⟩
 refine zA.2 (Ret_nil.2 ?_)
 have k02:=k1.trans k2
 have k03:=k02.trans k3
 refine hK _ c mp w3 ⟨hb3,(hc.keep k2 (by simp) (by simp)).keep k3 (by simp) (by simp),k03.has hm (by simp),⟨pa,la,ca,pb,lb,cb,ha.keep k03 (by simp) (by simp),hb.keep k03 (by simp) (by simp),hpp⟩,hne,hfit,hform,?_⟩ k03 ?_ hmb
 ·show base≤w2.heap.size
  have:=k02.size
  omega
 ·exact k02.size
def putT (p b:Nat) (from_ lba:Int) (w:World) (R:Value→World→Prop):Prop :=
 zB Tryz.prog 158 #[.pointer (some ⟨p,0,none⟩)] w fun v7 w=>OpI .u64 v7 fun n2=>LdA 16 b 0 (At w) fun cs1=>DoQ Tryz.prog (Instr.build 246 #[(0,.int .i64 1),(1,.int .u64 n2),(2,.int .i64 lba),(3,.agg cs1)]) (At w) fun v8 =>
 OpA 19 v8 fun cs2=>zB Tryz.prog 222 #[.pointer (some ⟨p,0,none⟩),.int .i64 from_,.agg cs2] w fun v9 w=>OpI .i64 v9 fun n3=>Cb (n3 !=0) (Ret [] (R (.tuple
 #[.int .u64 0,.int .i64 n3]) w)) (HeldR w fun S w=>LdV p 0 (At w) fun v10=>OpN v10 fun b2 o=>LdA 16 b 0 (At w) fun cs3=>zB Tryz.prog 212 #[.pointer (some ⟨b2,o,
 none⟩),.int .i64 lba,.agg cs3,.int .u64 n2] w fun v11 w=>OpI .i64 v11 fun n4=>Hld (S w) (Ret [] (R (.tuple #[.int .u64 n2,.int .i64 0]) w)))
theorem bld_rcd (k v l:Int) (f:Sec) (w:World):(Instr.build 246 #[(0,.int .i64 k),(1,.int .u64 v),(2,.int .i64 l),(3,.agg (secV f))]).run Tryz.prog w=.ok (.agg (recV ⟨k,v,l,f⟩)) w:=run_build _ _ _ _ (by kernel_rfl)
theorem PFoot.sec {w':World} (k:Keep (PFoot q w) w w') (h:PairAt w q s) {b:Nat} {cs:Array Value} (hb:Has w b (.cells cs 37 (0,0))):Has w' b (.cells cs 37 (0,0)) :=
 PFoot.has k hb (by decide) h (by decide) (by decide) (by decide)
theorem pr_putT (h:PairAt w q s) {f:Bool} {lba:Int} {d:Sec} {b:Nat} (hb:Has w b (.cells (secV d) 37 (0,0))) (h1:¬ (lba<0∨2147483647<lba)) (h2:(cond f s.ub s.ua)=true) (h3:¬ (mlook s.es lba=none∧q.room≤(s.es.length:Int)))
  (hK:∀ w',PairAt w' q (putP q.room q.sz s f lba d).2→Keep (PFoot q w) w w'→R (.tuple #[.int .u64 (putP q.room q.sz s f lba d).1.1,.int .i64 (putP q.room q.sz s f lba d).1.2]) w'):putT q.p b (sideN f) lba w R:=by
 unfold putT
 unfold putP at hK
 rw [if_neg h1,if_neg (by rw [h2];simp),if_neg h3] at hK
 refine pr_Take h fun w1 p1 k1=>?_
 refine zA.2 ?_
 generalize hv:IntKind.wrap .u64 (s.last+1)=v at *
 have hb1:=PFoot.sec k1 h hb
 refine LdA_all hb1 rfl ?_
 refine DoQ_of (fun dd=>bld_rcd _ _ _ _ _) ?_
 refine OpA_agg.2 ⟨rfl,?_⟩
 have hg:recGood ⟨1,v,lba,d⟩=true:=by
  unfold recGood
  simp only [Bool.and_eq_true,decide_eq_true_eq]
  omega
 refine pr_each p1 f hg fun w2 p2 k2=>?_
 refine zA.2 ?_
 have k02:=PFoot.trans k1 k2
 simp only at hK
 obtain ⟨e1,e2,e3,e4,e5⟩:=eachP_same (sz:=q.sz) (x:=⟨1,v,lba,d⟩) (f:=f) { s with last:=v }
 generalize hr:eachP q.sz ⟨1,v,lba,d⟩ f { s with last:=v }=r at *
 refine Cb_of (fun hc=>?_) (fun hc=>?_)
 ·have hc:r.1≠0:=by simpa using hc
  rw [if_pos hc] at hK
  exact Ret_nil.2 (hK w2 p2 k02)
 ·have hc:r.1=0:=by simpa using hc
  rw [if_neg (by simp [hc])] at hK
  intro dd
  refine ⟨fun _=>True,trivial,?_⟩
  have kd:=Keep.drew (fun _=>False) w2 dd
  have p3:=p2.keep kd
  refine LdV_has (v:=.pointer (some ⟨q.c,0,none⟩)) p3.cells rfl ?_
  refine OpN_some.2 ?_
  refine LdA_all ((PFoot.sec k2 p1 hb1).dr dd) rfl ?_
  have hca:CacheAt (w2.dr dd) q.c q.mp q.room s.es:=by
   have:=p3.cache
   rw [e1] at this
   exact this
  refine cache_Put hca fun w4 k4 hc4=>?_
  refine zA.2 ⟨trivial,Ret_nil.2 ?_⟩
  refine hK w4 ?_ (PFoot.trans k02 ((PFoot.none kd).trans' k4 fun i hi e=>Or.inr (Or.inl e)))
  obtain ⟨pa,la,ca,pb,lb,cb,ha,hb',hne⟩:=p3.rams
  have nm:∀ {k:Nat} {cs:Array Value} {t:TypeId} {f:Nat×Nat},Has (w2.dr dd) k (.cells cs t f)→¬ k=q.mp:=by
   intro k cs t f h1 e
   obtain ⟨_,arr,clk,hm,_⟩:=hca
   subst e
   cases h1.inj hm
  have rw_:∀ {p:Option Addr} {l c:Nat} {bs:List Int},OwnL byLay (w2.dr dd) q.base 5 p l c bs→∀ k,p=some ⟨k,0,none⟩→¬ k=q.mp:=by
   intro p l c bs ho k hk
   rcases Own.cases ho with ⟨h0,_⟩ | ⟨b',cur,h0,hb',hg,_⟩
   ·rw [h0] at hk;cases hk
   ·rw [h0] at hk;cases hk;exact nm hg
  exact ⟨k4.has p3.cells (nm p3.cells),hc4,k4.has p3.main (nm (show Has (w2.dr dd) _ _ from p3.main)),⟨pa,la,ca,pb,lb,cb,ha.keep k4 (nm ha.cells) (rw_ ha.row),hb'.keep k4 (nm hb'.cells) (rw_ hb'.row),hne⟩,p3.ne,p3.fit,p3.form,p3.low⟩
theorem pr_Put (h:PairAt w q s) (f:Bool) {lba:Int} {d:Sec}
  (hK:∀ w',PairAt w' q (putP q.room q.sz s f lba d).2→Keep (PFoot q w) w w'→R (.tuple #[.int .u64 (putP q.room q.sz s f lba d).1.1,.int .i64 (putP q.room q.sz s f lba d).1.2]) w') :
  zB Tryz.prog 156 #[.pointer (some ⟨q.p,0,none⟩),.int .i64 (sideN f),.int .i64 lba,.agg (secV d)] w R:=by
 apply C_mirror_Pair_Put
 unfold F_mirror_Pair_Put
 refine alc_fresh fun w1 hb1 k1 z1=>?_
 have p1:=h.keep k1
 refine pr_side _ ?_
 refine OpB_bool.2 ⟨rfl,rfl,rfl,rfl,?_⟩
 have e:(decide (sideN f=0) || decide (sideN f=1))=true:=by cases f <;> rfl
 rw [e]
 refine Cb_of (fun hc=>?_) (fun hc=>?_)
 ·have hr:lba<0∨2147483647<lba:=by
   by_cases h1:lba<0
   ·exact Or.inl h1
   ·simp [h1] at hc;exact Or.inr hc
  unfold putP at hK
  rw [if_pos hr] at hK
  exact Ret_nil.2 (hK w1 p1 (PFoot.none k1))
 have hr:¬ (lba<0∨2147483647<lba):=by
  by_cases h1:lba<0
  ·simp [h1] at hc
  ·simp [h1] at hc;omega
 have hb2:0≤sideN f∧sideN f<2:=by cases f <;> decide
 refine ⟨hb2,?_⟩
 refine LdV_has (v:=.bool (cond f s.ub s.ua)) p1.cells (by cases f <;> rfl) ?_
 refine OpB_bool.2 ?_
 refine Cb_of (fun hu=>?_) (fun hu=>?_)
 ·have hu:(cond f s.ub s.ua)=false:=by simpa using hu
  unfold putP at hK
  rw [if_neg hr,if_pos hu] at hK
  exact Ret_nil.2 (hK w1 p1 (PFoot.none k1))
 have hu:(cond f s.ub s.ua)=true:=by simpa using hu
 refine pr_Get p1 fun w2 k2=>?_
 refine T3_mk.2 (OpA_agg.2 ⟨rfl,zA.2 (zA.2 ?_)⟩)
 refine copy_of (by rw [zc_sec];rfl) rfl (one_secV _) fun w3 hb3 k3 z3=>?_
 have k13:=k2.trans k3
 have k03:=k1.trans k13
 have p3:=p1.keep k13
 have hbb:=k13.has hb1 (by simp)
 refine Cb_of (fun hg=>?_) (fun hg=>?_)
 ·have hn:mlook s.es lba=none:=by
   unfold getV at hg
   cases hl:mlook s.es lba with
   | none=>rfl
   | some e=>rw [hl] at hg;simp at hg
  refine pr_Full p3 fun dd=>?_
  have kd:=Keep.drew (fun _=>False) w3 dd
  refine OpB_bool.2 ?_
  refine Cb_of (fun hf=>?_) (fun hf=>?_)
  ·have hf:q.room≤(s.es.length:Int):=by simpa using hf
   unfold putP at hK
   rw [if_neg hr,if_neg (by rw [hu];simp),if_pos ⟨hn,hf⟩] at hK
   exact Ret_nil.2 (hK _ (p3.keep kd) (PFoot.none (k03.trans kd)))
  ·have hf:¬ q.room≤(s.es.length:Int):=by simpa using hf
   refine pr_putT (p3.keep kd) (d:=d) (f:=f) (hbb.dr dd) hr hu (fun hh=>hf hh.2) fun w5 p5 k5=>?_
   exact hK w5 p5 (PFoot.trans (PFoot.none (k03.trans kd)) k5)
 ·have hn:mlook s.es lba≠none:=by
   unfold getV at hg
   intro hl
   rw [hl] at hg
   simp at hg
  refine pr_putT p3 (d:=d) (f:=f) hbb hr hu (fun hh=>hn hh.1) fun w5 p5 k5=>?_
  exact hK w5 p5 (PFoot.trans (PFoot.none k03) k5)
end calls
end Go.Proofs
namespace Go.Proofs
open Go.Ev
set_option maxRecDepth 100000
def F_gf_Mul (a:Int) (b:Int) (w:World) (R:Value→World→Prop):Prop :=
 LoopC (σ:=Int×Int×Int×Unit) (fun _ s1 w K1=>Cb (decide (s1.1>0)) (Cb (ibits .and .u8 s1.1 1==1) (Req (0≤(1:Int)) (Cb (decide (ishl .i64 s1.2.2.1 1 >
 255)) (Req (0≤(1:Int)) (K1 (ishr .u8 s1.1 1,(ibits .xor .i64 s1.2.1 s1.2.2.1,(ibits .xor .i64 (ishl .i64 s1.2.2.1 1) 285,()))) w)) (Req (0≤(1:Int)) (K1 (ishr
 .u8 s1.1 1,(ibits .xor .i64 s1.2.1 s1.2.2.1,(ishl .i64 s1.2.2.1 1,()))) w)))) (Req (0≤(1:Int)) (Cb (decide (ishl .i64 s1.2.2.1 1>255)) (Req (0≤(1:Int)) (K1
 (ishr .u8 s1.1 1,(s1.2.1,(ibits .xor .i64 (ishl .i64 s1.2.2.1 1) 285,()))) w)) (Req (0≤(1:Int)) (K1 (ishr .u8 s1.1 1,(s1.2.1,(ishl .i64 s1.2.2.1 1,()))) w)))))
 (Ret [] (R (.int .u8 (IntKind.wrap .u8 s1.2.1)) w))) (b,(0,(IntKind.wrap .i64 a,()))) w
theorem C_gf_Mul {a:Int} {b:Int} {w:World} {R:Value→World→Prop} (h:F_gf_Mul a b w R):zB Tryz.prog 238 #[.int .u8 a,.int .u8 b] w R:=by
 exact zE (args:=[.int .u8 a,.int .u8 b]) (mkAnn [(2,[(1,(.int .u8)),(5,(.int .i64)),(6,(.int .i64))])] [] [] [] []) zD Tryz.func238 rfl rfl (by kernel_rfl) h
def F_gf_power (a:Int) (n:Int) (w:World) (R:Value→World→Prop):Prop :=
 LoopC (σ:=Int×Int×Int×Unit) (fun _ s1 w K1=>Cb (decide (s1.2.1>0)) (Cb (ibits .and .i64 s1.2.1 1==1) (zB Tryz.prog 238 #[.int .u8 s1.2.2.1,.int .u8 s1.1]
 w fun v w=>OpI .u8 v fun n1=>zB Tryz.prog 238 #[.int .u8 s1.1,.int .u8 s1.1] w fun v1 w=>OpI .u8 v1 fun n2=>Req (0≤(1:Int)) (K1 (n2,(ishr .i64 s1.2.1 1,
 (n1,()))) w)) (zB Tryz.prog 238 #[.int .u8 s1.1,.int .u8 s1.1] w fun v2 w=>OpI .u8 v2 fun n3=>Req (0≤(1:Int)) (K1 (n3,(ishr .i64 s1.2.1 1,(s1.2.2.1,())))
 w))) (Ret [] (R (.int .u8 s1.2.2.1) w))) (a,(n,(1,()))) w
theorem C_gf_power {a:Int} {n:Int} {w:World} {R:Value→World→Prop} (h:F_gf_power a n w R):zB Tryz.prog 239 #[.int .u8 a,.int .i64 n] w R:=by
 exact zE (args:=[.int .u8 a,.int .i64 n]) (mkAnn [(2,[(0,(.int .u8)),(1,(.int .i64)),(5,(.int .u8))])] [] [] [] []) zD Tryz.func239 rfl rfl (by kernel_rfl) h
def F_gf_around (n:Int) (w:World) (R:Value→World→Prop):Prop :=
 Req ((255:Int)≠0) (Req ((255:Int)≠0) (Ret [] (R (.int .i64 (Int.tmod (IntKind.wrap .i64 ((Int.tmod n 255)+255)) 255)) w)))
theorem C_gf_around {n:Int} {w:World} {R:Value→World→Prop} (h:F_gf_around n w R):zB Tryz.prog 240 #[.int .i64 n] w R:=by
 exact zE (args:=[.int .i64 n]) (mkAnn [] [] [] [] []) zD Tryz.func240 rfl rfl (by kernel_rfl) h
def F_gf_Exp (n:Int) (w:World) (R:Value→World→Prop):Prop :=
 zB Tryz.prog 240 #[.int .i64 n] w fun v w=>OpI .i64 v fun n1=>zB Tryz.prog 239 #[.int .u8 2,.int .i64 n1] w fun v1 w=>OpI .u8 v1 fun n2=>Ret [] (R (.int .u8
 n2) w)
theorem C_gf_Exp {n:Int} {w:World} {R:Value→World→Prop} (h:F_gf_Exp n w R):zB Tryz.prog 185 #[.int .i64 n] w R:=by
 exact zE (args:=[.int .i64 n]) (mkAnn [] [] [] [] []) zD Tryz.func185 rfl rfl (by kernel_rfl) h
def F_gf_Inv (a:Int) (w:World) (R:Value→World→Prop):Prop :=
 Cb (a==0) (Ret [] (R (.tuple #[.int .u8 0,.int .i64 3]) w)) (zB Tryz.prog 239 #[.int .u8 a,.int .i64 254] w fun v w=>OpI .u8 v fun n=>Ret [] (R (.tuple #[.int
 .u8 n,.int .i64 0]) w))
theorem C_gf_Inv {a:Int} {w:World} {R:Value→World→Prop} (h:F_gf_Inv a w R):zB Tryz.prog 184 #[.int .u8 a] w R:=by
 exact zE (args:=[.int .u8 a]) (mkAnn [] [] [] [] []) zD Tryz.func184 rfl rfl (by kernel_rfl) h
def F_gf_Solve (a:Int) (b:Int) (c:Int) (d:Int) (e:Int) (f:Int) (w:World) (R:Value→World→Prop):Prop :=
 zB Tryz.prog 238 #[.int .u8 a,.int .u8 d] w fun v w=>OpI .u8 v fun n=>zB Tryz.prog 238 #[.int .u8 b,.int .u8 c] w fun v1 w=>OpI .u8 v1 fun n1=>zB
 Tryz.prog 184 #[.int .u8 (ibits .xor .u8 n n1)] w fun v2 w=>T2 v2 fun v3 v4=>OpI .u8 v3 fun n2=>OpI .i64 v4 fun n3=>Cb (n3 !=0) (Ret [] (R (.tuple #[.int .u8 0,
 .int .u8 0,.int .i64 n3]) w)) (zB Tryz.prog 238 #[.int .u8 d,.int .u8 e] w fun v5 w=>OpI .u8 v5 fun n4=>zB Tryz.prog 238 #[.int .u8 b,.int .u8 f] w fun v6 w
 => OpI .u8 v6 fun n5=>zB Tryz.prog 238 #[.int .u8 n2,.int .u8 (ibits .xor .u8 n4 n5)] w fun v7 w=>OpI .u8 v7 fun n6=>zB Tryz.prog 238 #[.int .u8 a,.int .u8
 f] w fun v8 w=>OpI .u8 v8 fun n7=>zB Tryz.prog 238 #[.int .u8 c,.int .u8 e] w fun v9 w=>OpI .u8 v9 fun n8=>zB Tryz.prog 238 #[.int .u8 n2,.int .u8 (ibits
 .xor .u8 n7 n8)] w fun v10 w=>OpI .u8 v10 fun n9=>Ret [] (R (.tuple #[.int .u8 n6,.int .u8 n9,.int .i64 0]) w))
theorem C_gf_Solve {a:Int} {b:Int} {c:Int} {d:Int} {e:Int} {f:Int} {w:World} {R:Value→World→Prop} (h:F_gf_Solve a b c d e f w R):zB Tryz.prog 186 #[.int .u8 a,.int .u8 b,.int .u8 c,.int .u8 d,.int .u8 e,.int .u8 f] w R:=by
 exact zE (args:=[.int .u8 a,.int .u8 b,.int .u8 c,.int .u8 d,.int .u8 e,.int .u8 f]) (mkAnn [] [] [] [] []) zD Tryz.func186 rfl rfl (by kernel_rfl) h
def F_parity_add (pp:Option Addr) (pl:Nat) (pc:Nat) (cp:Option Addr) (cl:Nat) (cc:Nat) (g:Int) (w:World) (R:Value→World→Prop):Prop :=
 LoopC (σ:=Int×Unit) (fun _ s1 w K1=>Cb (decide (s1.1<((cl:Nat):Int))) (IdxS cp cl s1.1 1 fun b o=>LdV b o (At w) fun v=>OpI .u8 v fun n=>Dr1 w fun w =>
 IdxS pp pl s1.1 1 fun b1 o1=>LdV b1 o1 (At w) fun v1=>OpI .u8 v1 fun n1=>CallS Tryz.prog 238 #[.int .u8 g,.int .u8 n] w fun v2=>OpI .u8 v2 fun n2=>IdxS pp pl
 s1.1 1 fun b2 o2=>StV b2 o2 (.int .u8 (ibits .xor .u8 n1 n2)) w fun w=>K1 (IntKind.wrap .i64 (s1.1+1),()) w) (Ret [] (R (.tuple #[]) w))) (0,()) w
theorem C_parity_add {pp:Option Addr} {pl:Nat} {pc:Nat} {cp:Option Addr} {cl:Nat} {cc:Nat} {g:Int} {w:World} {R:Value→World→Prop} (h:F_parity_add pp pl pc cp cl cc g w R):zB Tryz.prog 183 #[.slice pp pl pc,.slice cp cl cc,.int .u8 g] w R:=by
 exact zE (args:=[.slice pp pl pc,.slice cp cl cc,.int .u8 g]) (mkAnn [(1,[(10,(.int .i64))])] [] [] [] []) zD Tryz.func183 rfl rfl (by kernel_rfl) h
def F_parity_sums (colsp:Option Addr) (colsl:Nat) (colsc:Nat) (n:Int) (w:World) (R:Value→World→Prop):Prop :=
 HeldR w fun S w=>(DoV Tryz.prog (Instr.makeSlice 22 (.int .i64 n) (.int .i64 n)) w fun v w=>OpS v fun p l c=>Hld (S w) (DoV Tryz.prog (Instr.makeSlice 22 (.int .i64
 n) (.int .i64 n)) w fun v1 w=>OpS v1 fun p1 l1 c1=>Hld (S w) (LoopC (σ:=Int×Unit) (fun _ s1 w K1=>Cb (decide (s1.1<((colsl:Nat):Int))) (IdxS colsp colsl
 s1.1 1 fun b o=>LdV b o (At w) fun v2=>OpS v2 fun p2 l2 c2=>zB Tryz.prog 183 #[.slice p l c,.slice p2 l2 c2,.int .u8 1] w fun v3 w=>zB Tryz.prog 185 #[.int
 .i64 s1.1] w fun v4 w=>OpI .u8 v4 fun n1=>zB Tryz.prog 183 #[.slice p1 l1 c1,.slice p2 l2 c2,.int .u8 n1] w fun v5 w=>K1 (IntKind.wrap .i64 (s1.1+1),()) w)
 (Ret [] (R (.tuple #[.slice p l c,.slice p1 l1 c1]) w))) (0,()) w)))∧(DoV Tryz.prog (Instr.makeSlice 22 (.int .i64 n) (.int .i64 n)) w fun v6 w=>OpS v6 fun p3 l3 c3
 => Hld (S w) (DoV Tryz.prog (Instr.makeSlice 22 (.int .i64 n) (.int .i64 n)) w fun v7 w=>OpS v7 fun p4 l4 c4=>Hld (S w) (LoopC (σ:=Int×Unit) (fun _ s2 w K2=>Cb
 (decide (s2.1<((colsl:Nat):Int))) (IdxS colsp colsl s2.1 1 fun b1 o1=>LdV b1 o1 (At w) fun v8=>OpS v8 fun p5 l5 c5=>zB Tryz.prog 183 #[.slice p4 l4 c4,
 .slice p5 l5 c5,.int .u8 1] w fun v9 w=>zB Tryz.prog 185 #[.int .i64 s2.1] w fun v10 w=>OpI .u8 v10 fun n2=>zB Tryz.prog 183 #[.slice p3 l3 c3,.slice p5 l5
 c5,.int .u8 n2] w fun v11 w=>K2 (IntKind.wrap .i64 (s2.1+1),()) w) (Ret [] (R (.tuple #[.slice p4 l4 c4,.slice p3 l3 c3]) w))) (0,()) w)))
theorem C_parity_sums {colsp:Option Addr} {colsl:Nat} {colsc:Nat} {n:Int} {w:World} {R:Value→World→Prop} (h:F_parity_sums colsp colsl colsc n w R):zB Tryz.prog 182 #[.slice colsp colsl colsc,.int .i64 n] w R:=by
 exact zE (args:=[.slice colsp colsl colsc,.int .i64 n]) (mkAnn [(3,[(14,(.int .i64))])] [] [] [] []) zD Tryz.func182 rfl rfl (by kernel_rfl) h
def F_slices_Concat_byte (slicesp:Option Addr) (slicesl:Nat) (slicesc:Nat) (w:World) (R:Value→World→Prop):Prop :=
 LoopC (σ:=Int×Int×Unit) (fun _ s1 w K1=>Cb (decide (s1.2.1<((slicesl:Nat):Int))) (IdxS slicesp slicesl s1.2.1 1 fun b o=>LdV b o (At w) fun v=>OpS v fun
 p l c=>Cb (decide (IntKind.wrap .i64 (s1.1+((l:Nat):Int))<0)) (False) (K1 (IntKind.wrap .i64 (s1.1+((l:Nat):Int)),(IntKind.wrap .i64 (s1.2.1+1),()))
 w)) (zB Tryz.prog 268 #[.slice none 0 0,.int .i64 s1.1] w fun v1 w=>OpS v1 fun p1 l1 c1=>LoopC (σ:=(Option Addr×Nat×Nat)×Int×Unit) (fun _ s2 w K2=>Cb
 (decide (s2.2.1<((slicesl:Nat):Int))) (IdxS slicesp slicesl s2.2.1 1 fun b1 o1=>LdV b1 o1 (At w) fun v2=>OpS v2 fun p2 l2 c2=>DoV Tryz.prog (Builtin.append_
 #[187,187] 187 #[.slice s2.1.1 s2.1.2.1 s2.1.2.2,.slice p2 l2 c2]) w fun v3 w=>OpS v3 fun p3 l3 c3=>K2 ((p3,l3,c3),(IntKind.wrap .i64 (s2.2.1+1),())) w) (Ret
 [] (R (.slice s2.1.1 s2.1.2.1 s2.1.2.2) w))) ((p1,l1,c1),(0,())) w)) (0,(0,())) w
theorem C_slices_Concat_byte {slicesp:Option Addr} {slicesl:Nat} {slicesc:Nat} {w:World} {R:Value→World→Prop} (h:F_slices_Concat_byte slicesp slicesl slicesc w R):zB Tryz.prog 237 #[.slice slicesp slicesl slicesc] w R:=by
 exact zE (args:=[.slice slicesp slicesl slicesc]) (mkAnn [(3,[(3,(.int .i64)),(11,(.int .i64))]),(11,[(6,.slice),(27,(.int .i64))])] [] [] [] []) zD Tryz.func237 rfl rfl (by kernel_rfl) h
def F_slices_Grow_byte (sp:Option Addr) (sl:Nat) (sc:Nat) (n:Int) (w:World) (R:Value→World→Prop):Prop :=
 Cb (decide (n<0)) (False) (Cb (decide (IntKind.wrap .i64 (n-(IntKind.wrap .i64 (((sc:Nat):Int)-((sl:Nat):Int))))>0)) (Slc sl sc none (some ((sc:Nat) :
 Int)) none fun l h m=>DoV Tryz.prog (Builtin.append_ #[187,3] 187 #[.slice (slcP 1 l m sp) (h-l) (m-l),.int .i64 (IntKind.wrap .i64 (n-(IntKind.wrap .i64 (((sc :
 Nat):Int)-((sl:Nat):Int)))))]) w fun v w=>OpS v fun p l1 c=>Slc l1 c none (some ((sl:Nat):Int)) none fun l2 h1 m1=>Ret [] (R (.slice (slcP 1 l2 m1 p) (h1
 - l2) (m1-l2)) w)) (Ret [] (R (.slice sp sl sc) w)))
theorem C_slices_Grow_byte {sp:Option Addr} {sl:Nat} {sc:Nat} {n:Int} {w:World} {R:Value→World→Prop} (h:F_slices_Grow_byte sp sl sc n w R):zB Tryz.prog 268 #[.slice sp sl sc,.int .i64 n] w R:=by
 exact zE (args:=[.slice sp sl sc,.int .i64 n]) (mkAnn [] [] [] [] []) zD Tryz.func268 rfl rfl (by kernel_rfl) h
def F_parity_width (colsp:Option Addr) (colsl:Nat) (colsc:Nat) (morep:Option Addr) (morel:Nat) (morec:Nat) (w:World) (R:Value→World→Prop):Prop :=
 Cb (decide (((colsl:Nat):Int)<1)) (Ret [] (R (.tuple #[.int .i64 0,.int .i64 0]) w)) (Cb (decide (((colsl:Nat):Int)>30)) (Ret [] (R (.tuple #[.int .i64 0,
 .int .i64 0]) w)) (DoV Tryz.prog (Instr.buildSlice 361 2 #[(0,.slice colsp colsl colsc),(1,.slice morep morel morec)]) w fun v w=>OpS v fun p l c=>zB Tryz.prog
 237 #[.slice p l c] w fun v1 w=>OpS v1 fun p1 l1 c1=>LoopC (σ:=Int×Int×Int×Unit) (fun _ s1 w K1=>Cb (decide (s1.2.2.1<((l1:Nat):Int))) (IdxS p1 l1
 s1.2.2.1 1 fun b o=>LdV b o (At w) fun v2=>OpS v2 fun p2 l2 c2=>Cb (((l2:Nat):Int)==0) (K1 (s1.1,(IntKind.wrap .i64 (s1.2.1+1),(IntKind.wrap .i64 (s1.2.2.1
 + 1),()))) w) (Cb (s1.1==0) (K1 (((l2:Nat):Int),(s1.2.1,(IntKind.wrap .i64 (s1.2.2.1+1),()))) w) (Cb (s1.1 !=((l2:Nat):Int)) (Ret [] (R (.tuple #[.int
 .i64 0,.int .i64 0]) w)) (K1 (s1.1,(s1.2.1,(IntKind.wrap .i64 (s1.2.2.1+1),()))) w)))) (Cb (decide (s1.1>4096)) (Ret [] (R (.tuple #[.int .i64 0,.int .i64 0]) w))
 (Ret [] (R (.tuple #[.int .i64 s1.1,.int .i64 s1.2.1]) w)))) (0,(0,(0,()))) w))
theorem C_parity_width {colsp:Option Addr} {colsl:Nat} {colsc:Nat} {morep:Option Addr} {morel:Nat} {morec:Nat} {w:World} {R:Value→World→Prop} (h:F_parity_width colsp colsl colsc morep morel morec w R):zB Tryz.prog 180 #[.slice colsp colsl colsc,.slice morep morel morec] w R:=by
 exact zE (args:=[.slice colsp colsl colsc,.slice morep morel morec]) (mkAnn [(4,[(4,(.int .i64)),(5,(.int .i64)),(21,(.int .i64))])] [] [] [] []) zD Tryz.func180 rfl rfl (by kernel_rfl) h
def F_parity_Encode (colsp:Option Addr) (colsl:Nat) (colsc:Nat) (w:World) (R:Value→World→Prop):Prop :=
 zB Tryz.prog 180 #[.slice colsp colsl colsc,.slice none 0 0] w fun v w=>T2 v fun v1 v2=>OpI .i64 v1 fun n=>OpI .i64 v2 fun n1=>Req ((n==0)=(n==0)) (Req
 ((n==0)=(n==0)) (Cb (cond (n==0) true (decide (n1>0))) (Ret [] (R (.tuple #[.slice none 0 0,.slice none 0 0,.int .i64 1]) w)) (zB Tryz.prog 182 #[.slice
 colsp colsl colsc,.int .i64 n] w fun v3 w=>T2 v3 fun v4 v5=>OpS v4 fun p l c=>OpS v5 fun p1 l1 c1=>Ret [] (R (.tuple #[.slice p l c,.slice p1 l1 c1,.int .i64
 0]) w))))
theorem C_parity_Encode {colsp:Option Addr} {colsl:Nat} {colsc:Nat} {w:World} {R:Value→World→Prop} (h:F_parity_Encode colsp colsl colsc w R):zB Tryz.prog 115 #[.slice colsp colsl colsc] w R:=by
 exact zE (args:=[.slice colsp colsl colsc]) (mkAnn [] [] [] [] []) zD Tryz.func115 rfl rfl (by kernel_rfl) h
def F_slices_Clone_byte (sp:Option Addr) (sl:Nat) (sc:Nat) (w:World) (R:Value→World→Prop):Prop :=
 Cb (Option.isNone sp) (Ret [] (R (.slice none 0 0) w)) (DoV Tryz.prog (Instr.buildSlice 22 0 #[]) w fun v w=>OpS v fun p l c=>DoV Tryz.prog (Builtin.append_ #[22,22]
 22 #[.slice p l c,.slice sp sl sc]) w fun v1 w=>OpS v1 fun p1 l1 c1=>Ret [] (R (.slice p1 l1 c1) w))
theorem C_slices_Clone_byte {sp:Option Addr} {sl:Nat} {sc:Nat} {w:World} {R:Value→World→Prop} (h:F_slices_Clone_byte sp sl sc w R):zB Tryz.prog 181 #[.slice sp sl sc] w R:=by
 exact zE (args:=[.slice sp sl sc]) (mkAnn [] [] [] [] []) zD Tryz.func181 rfl rfl (by kernel_rfl) h
def F_parity_Recover (colsp:Option Addr) (colsl:Nat) (colsc:Nat) (pp:Option Addr) (pl:Nat) (pc:Nat) (qp:Option Addr) (ql:Nat) (qc:Nat) (w:World) (R:Value→World→Prop):Prop :=
 DoV Tryz.prog (Instr.buildSlice 187 2 #[(0,.slice pp pl pc),(1,.slice qp ql qc)]) w fun v w=>OpS v fun p l c=>zB Tryz.prog 180 #[.slice colsp colsl colsc,.slice
 p l c] w fun v1 w=>T2 v1 fun v2 v3=>OpI .i64 v2 fun n=>OpI .i64 v3 fun n1=>Cb (n==0) (Ret [] (R (.tuple #[.slice none 0 0,.slice none 0 0,.slice none 0 0,.int
 .i64 1]) w)) (Cb (decide (n1>2)) (Ret [] (R (.tuple #[.slice none 0 0,.slice none 0 0,.slice none 0 0,.int .i64 8]) w)) (LoopC (σ:=(Option Addr×Nat×Nat) ×
 (Option Addr×Nat×Nat)×Int×Unit) (fun _ s1 w K1=>Cb (decide (s1.2.2.1<((colsl:Nat):Int))) (IdxS colsp colsl s1.2.2.1 1 fun b o=>LdV b o (At w) fun v4 =>
 OpS v4 fun p1 l1 c1=>zB Tryz.prog 181 #[.slice p1 l1 c1] w fun v5 w=>OpS v5 fun p2 l2 c2=>DoV Tryz.prog (Instr.buildSlice 187 1 #[(0,.slice p2 l2 c2)]) w fun v6
 w=>OpS v6 fun p3 l3 c3=>DoV Tryz.prog (Builtin.append_ #[187,187] 187 #[.slice s1.1.1 s1.1.2.1 s1.1.2.2,.slice p3 l3 c3]) w fun v7 w=>OpS v7 fun p4 l4 c4=>JoinC
 (σ:=(Option Addr×Nat×Nat)×Unit) (fun J2=>Cb (((l1:Nat):Int)==0) (DoV Tryz.prog (Instr.buildSlice 69 1 #[(0,.int .i64 s1.2.2.1)]) w fun v8 w=>OpS v8 fun
 p5 l5 c5=>DoV Tryz.prog (Builtin.append_ #[69,69] 69 #[.slice s1.2.1.1 s1.2.1.2.1 s1.2.1.2.2,.slice p5 l5 c5]) w fun v9 w=>OpS v9 fun p6 l6 c6=>J2 ((p6,l6,c6),
 ()) w) (J2 ((s1.2.1.1,s1.2.1.2.1,s1.2.1.2.2),()) w)) (fun _ s2 w=>K1 ((p4,l4,c4),((s2.1.1,s2.1.2.1,s2.1.2.2),(IntKind.wrap .i64 (s1.2.2.1+1),()))) w)) (zB
 Tryz.prog 182 #[.slice colsp colsl colsc,.int .i64 n] w fun v10 w=>T2 v10 fun v11 v12=>OpS v11 fun p7 l7 c7=>OpS v12 fun p8 l8 c8=>zB Tryz.prog 183 #[.slice p7
 l7 c7,.slice pp pl pc,.int .u8 1] w fun v13 w=>zB Tryz.prog 183 #[.slice p8 l8 c8,.slice qp ql qc,.int .u8 1] w fun v14 w=>JoinC (σ:=Unit) (fun J3=>Cb
 (((s1.2.1.2.1:Nat):Int)==1) (Cb (decide (((pl:Nat):Int)>0)) (IdxS s1.2.1.1 s1.2.1.2.1 0 1 fun b1 o1=>LdV b1 o1 (At w) fun v15=>OpI .i64 v15 fun n2=>IdxS
 s1.1.1 s1.1.2.1 n2 1 fun b2 o2=>StV b2 o2 (.slice p7 l7 c7) w fun w=>J3 () w) (Cb (((s1.2.1.2.1:Nat):Int)==1) (IdxS s1.2.1.1 s1.2.1.2.1 0 1 fun b3 o3=>LdV b3
 o3 (At w) fun v16=>OpI .i64 v16 fun n3=>zB Tryz.prog 185 #[.int .i64 n3] w fun v17 w=>OpI .u8 v17 fun n4=>zB Tryz.prog 184 #[.int .u8 n4] w fun v18 w=>T2
 v18 fun v19 v20=>OpI .u8 v19 fun n5=>OpI .i64 v20 fun n6=>DoV Tryz.prog (Instr.makeSlice 22 (.int .i64 n) (.int .i64 n)) w fun v21 w=>OpS v21 fun p9 l9 c9=>zB
 Tryz.prog 183 #[.slice p9 l9 c9,.slice p8 l8 c8,.int .u8 n5] w fun v22 w=>IdxS s1.2.1.1 s1.2.1.2.1 0 1 fun b4 o4=>LdV b4 o4 (At w) fun v23=>OpI .i64 v23 fun n7 =>
 IdxS s1.1.1 s1.1.2.1 n7 1 fun b5 o5=>StV b5 o5 (.slice p9 l9 c9) w fun w=>J3 () w) (Cb (((s1.2.1.2.1:Nat):Int)==2) (HeldR w fun S w=>(DoV Tryz.prog
 (Instr.makeSlice 22 (.int .i64 n) (.int .i64 n)) w fun v24 w=>OpS v24 fun p10 l10 c10=>Hld (S w) (DoV Tryz.prog (Instr.makeSlice 22 (.int .i64 n) (.int .i64 n)) w fun
 v25 w=>OpS v25 fun p11 l11 c11=>Hld (S w) (LoopC (σ:=Int×Unit) (fun _ s4 w K4=>Cb (decide (s4.1<n)) (HeldR w fun S w=>IdxS s1.2.1.1 s1.2.1.2.1 0 1 fun b6 o6
 => LdV b6 o6 S fun v26=>OpI .i64 v26 fun n8=>IdxS s1.2.1.1 s1.2.1.2.1 1 1 fun b7 o7=>LdV b7 o7 S fun v27=>OpI .i64 v27 fun n9=>IdxS p7 l7 s4.1 1 fun b8 o8=>LdV
 b8 o8 S fun v28=>OpI .u8 v28 fun n10=>IdxS p8 l8 s4.1 1 fun b9 o9=>LdV b9 o9 S fun v29=>OpI .u8 v29 fun n11=>zB Tryz.prog 185 #[.int .i64 n8] w fun v30 w =>
 OpI .u8 v30 fun n12=>Hld (S w) (zB Tryz.prog 185 #[.int .i64 n9] w fun v31 w=>OpI .u8 v31 fun n13=>Hld (S w) (zB Tryz.prog 186 #[.int .u8 1,.int .u8 1,.int
 .u8 n12,.int .u8 n13,.int .u8 n10,.int .u8 n11] w fun v32 w=>T3 v32 fun v33 v34 v35=>OpI .u8 v33 fun n14=>OpI .u8 v34 fun n15=>OpI .i64 v35 fun n16=>Hld (S w)
 (IdxS p10 l10 s4.1 1 fun b10 o10=>StV b10 o10 (.int .u8 n14) w fun w=>Hld (S w) (IdxS p11 l11 s4.1 1 fun b11 o11=>StV b11 o11 (.int .u8 n15) w fun w=>Hld (S w) (K4
 (IntKind.wrap .i64 (s4.1+1),()) w)))))) (HeldR w fun S w=>IdxS s1.2.1.1 s1.2.1.2.1 0 1 fun b12 o12=>LdV b12 o12 (At w) fun v36=>OpI .i64 v36 fun n17=>IdxS
 s1.2.1.1 s1.2.1.2.1 1 1 fun b13 o13=>LdV b13 o13 (At w) fun v37=>OpI .i64 v37 fun n18=>IdxS s1.1.1 s1.1.2.1 n17 1 fun b14 o14=>StV b14 o14 (.slice p10 l10 c10) w
 fun w=>Hld (S w) (IdxS s1.1.1 s1.1.2.1 n18 1 fun b15 o15=>StV b15 o15 (.slice p11 l11 c11) w fun w=>Hld (S w) (J3 () w)))) (0,()) w)))∧(DoV Tryz.prog
 (Instr.makeSlice 22 (.int .i64 n) (.int .i64 n)) w fun v38 w=>OpS v38 fun p12 l12 c12=>Hld (S w) (DoV Tryz.prog (Instr.makeSlice 22 (.int .i64 n) (.int .i64 n)) w fun
 v39 w=>OpS v39 fun p13 l13 c13=>Hld (S w) (LoopC (σ:=Int×Unit) (fun _ s5 w K5=>Cb (decide (s5.1<n)) (HeldR w fun S w=>IdxS s1.2.1.1 s1.2.1.2.1 0 1 fun b16
 o16=>LdV b16 o16 S fun v40=>OpI .i64 v40 fun n19=>IdxS s1.2.1.1 s1.2.1.2.1 1 1 fun b17 o17=>LdV b17 o17 S fun v41=>OpI .i64 v41 fun n20=>IdxS p7 l7 s5.1 1 fun
 b18 o18=>LdV b18 o18 S fun v42=>OpI .u8 v42 fun n21=>IdxS p8 l8 s5.1 1 fun b19 o19=>LdV b19 o19 S fun v43=>OpI .u8 v43 fun n22=>zB Tryz.prog 185 #[.int .i64
 n19] w fun v44 w=>OpI .u8 v44 fun n23=>Hld (S w) (zB Tryz.prog 185 #[.int .i64 n20] w fun v45 w=>OpI .u8 v45 fun n24=>Hld (S w) (zB Tryz.prog 186 #[.int .u8
 1,.int .u8 1,.int .u8 n23,.int .u8 n24,.int .u8 n21,.int .u8 n22] w fun v46 w=>T3 v46 fun v47 v48 v49=>OpI .u8 v47 fun n25=>OpI .u8 v48 fun n26=>OpI .i64 v49
 fun n27=>Hld (S w) (IdxS p13 l13 s5.1 1 fun b20 o20=>StV b20 o20 (.int .u8 n25) w fun w=>Hld (S w) (IdxS p12 l12 s5.1 1 fun b21 o21=>StV b21 o21 (.int .u8 n26) w
 fun w=>Hld (S w) (K5 (IntKind.wrap .i64 (s5.1+1),()) w)))))) (HeldR w fun S w=>IdxS s1.2.1.1 s1.2.1.2.1 0 1 fun b22 o22=>LdV b22 o22 (At w) fun v50=>OpI .i64
 v50 fun n28=>IdxS s1.2.1.1 s1.2.1.2.1 1 1 fun b23 o23=>LdV b23 o23 (At w) fun v51=>OpI .i64 v51 fun n29=>IdxS s1.1.1 s1.1.2.1 n28 1 fun b24 o24=>StV b24 o24
 (.slice p13 l13 c13) w fun w=>Hld (S w) (IdxS s1.1.1 s1.1.2.1 n29 1 fun b25 o25=>StV b25 o25 (.slice p12 l12 c12) w fun w=>Hld (S w) (J3 () w)))) (0,()) w)))) (J3
 () w)))) (Cb (((s1.2.1.2.1:Nat):Int)==1) (IdxS s1.2.1.1 s1.2.1.2.1 0 1 fun b26 o26=>LdV b26 o26 (At w) fun v52=>OpI .i64 v52 fun n30=>zB Tryz.prog 185
 #[.int .i64 n30] w fun v53 w=>OpI .u8 v53 fun n31=>zB Tryz.prog 184 #[.int .u8 n31] w fun v54 w=>T2 v54 fun v55 v56=>OpI .u8 v55 fun n32=>OpI .i64 v56 fun n33
 => DoV Tryz.prog (Instr.makeSlice 22 (.int .i64 n) (.int .i64 n)) w fun v57 w=>OpS v57 fun p14 l14 c14=>zB Tryz.prog 183 #[.slice p14 l14 c14,.slice p8 l8 c8,.int
 .u8 n32] w fun v58 w=>IdxS s1.2.1.1 s1.2.1.2.1 0 1 fun b27 o27=>LdV b27 o27 (At w) fun v59=>OpI .i64 v59 fun n34=>IdxS s1.1.1 s1.1.2.1 n34 1 fun b28 o28=>StV b28
 o28 (.slice p14 l14 c14) w fun w=>J3 () w) (Cb (((s1.2.1.2.1:Nat):Int)==2) (HeldR w fun S w=>(DoV Tryz.prog (Instr.makeSlice 22 (.int .i64 n) (.int .i64 n)) w
 fun v60 w=>OpS v60 fun p15 l15 c15=>Hld (S w) (DoV Tryz.prog (Instr.makeSlice 22 (.int .i64 n) (.int .i64 n)) w fun v61 w=>OpS v61 fun p16 l16 c16=>Hld (S w)
 (LoopC (σ:=Int×Unit) (fun _ s6 w K6=>Cb (decide (s6.1<n)) (HeldR w fun S w=>IdxS s1.2.1.1 s1.2.1.2.1 0 1 fun b29 o29=>LdV b29 o29 S fun v62=>OpI .i64 v62 fun
 n35=>IdxS s1.2.1.1 s1.2.1.2.1 1 1 fun b30 o30=>LdV b30 o30 S fun v63=>OpI .i64 v63 fun n36=>IdxS p7 l7 s6.1 1 fun b31 o31=>LdV b31 o31 S fun v64=>OpI .u8 v64
 fun n37=>IdxS p8 l8 s6.1 1 fun b32 o32=>LdV b32 o32 S fun v65=>OpI .u8 v65 fun n38=>zB Tryz.prog 185 #[.int .i64 n35] w fun v66 w=>OpI .u8 v66 fun n39=>Hld
 (S w) (zB Tryz.prog 185 #[.int .i64 n36] w fun v67 w=>OpI .u8 v67 fun n40=>Hld (S w) (zB Tryz.prog 186 #[.int .u8 1,.int .u8 1,.int .u8 n39,.int .u8 n40,.int
 .u8 n37,.int .u8 n38] w fun v68 w=>T3 v68 fun v69 v70 v71=>OpI .u8 v69 fun n41=>OpI .u8 v70 fun n42=>OpI .i64 v71 fun n43=>Hld (S w) (IdxS p15 l15 s6.1 1 fun
 b33 o33=>StV b33 o33 (.int .u8 n41) w fun w=>Hld (S w) (IdxS p16 l16 s6.1 1 fun b34 o34=>StV b34 o34 (.int .u8 n42) w fun w=>Hld (S w) (K6 (IntKind.wrap .i64 (s6.1
 + 1),()) w)))))) (HeldR w fun S w=>IdxS s1.2.1.1 s1.2.1.2.1 0 1 fun b35 o35=>LdV b35 o35 (At w) fun v72=>OpI .i64 v72 fun n44=>IdxS s1.2.1.1 s1.2.1.2.1 1 1 fun
 b36 o36=>LdV b36 o36 (At w) fun v73=>OpI .i64 v73 fun n45=>IdxS s1.1.1 s1.1.2.1 n44 1 fun b37 o37=>StV b37 o37 (.slice p15 l15 c15) w fun w=>Hld (S w) (IdxS
 s1.1.1 s1.1.2.1 n45 1 fun b38 o38=>StV b38 o38 (.slice p16 l16 c16) w fun w=>Hld (S w) (J3 () w)))) (0,()) w)))∧(DoV Tryz.prog (Instr.makeSlice 22 (.int .i64 n)
 (.int .i64 n)) w fun v74 w=>OpS v74 fun p17 l17 c17=>Hld (S w) (DoV Tryz.prog (Instr.makeSlice 22 (.int .i64 n) (.int .i64 n)) w fun v75 w=>OpS v75 fun p18 l18 c18
 => Hld (S w) (LoopC (σ:=Int×Unit) (fun _ s7 w K7=>Cb (decide (s7.1<n)) (HeldR w fun S w=>IdxS s1.2.1.1 s1.2.1.2.1 0 1 fun b39 o39=>LdV b39 o39 S fun v76=>OpI
 .i64 v76 fun n46=>IdxS s1.2.1.1 s1.2.1.2.1 1 1 fun b40 o40=>LdV b40 o40 S fun v77=>OpI .i64 v77 fun n47=>IdxS p7 l7 s7.1 1 fun b41 o41=>LdV b41 o41 S fun v78 =>
 OpI .u8 v78 fun n48=>IdxS p8 l8 s7.1 1 fun b42 o42=>LdV b42 o42 S fun v79=>OpI .u8 v79 fun n49=>zB Tryz.prog 185 #[.int .i64 n46] w fun v80 w=>OpI .u8 v80 fun
 n50=>Hld (S w) (zB Tryz.prog 185 #[.int .i64 n47] w fun v81 w=>OpI .u8 v81 fun n51=>Hld (S w) (zB Tryz.prog 186 #[.int .u8 1,.int .u8 1,.int .u8 n50,.int
 .u8 n51,.int .u8 n48,.int .u8 n49] w fun v82 w=>T3 v82 fun v83 v84 v85=>OpI .u8 v83 fun n52=>OpI .u8 v84 fun n53=>OpI .i64 v85 fun n54=>Hld (S w) (IdxS p18 l18
 s7.1 1 fun b43 o43=>StV b43 o43 (.int .u8 n52) w fun w=>Hld (S w) (IdxS p17 l17 s7.1 1 fun b44 o44=>StV b44 o44 (.int .u8 n53) w fun w=>Hld (S w) (K7 (IntKind.wrap
 .i64 (s7.1+1),()) w)))))) (HeldR w fun S w=>IdxS s1.2.1.1 s1.2.1.2.1 0 1 fun b45 o45=>LdV b45 o45 (At w) fun v86=>OpI .i64 v86 fun n55=>IdxS s1.2.1.1 s1.2.1.2.1
 1 1 fun b46 o46=>LdV b46 o46 (At w) fun v87=>OpI .i64 v87 fun n56=>IdxS s1.1.1 s1.1.2.1 n55 1 fun b47 o47=>StV b47 o47 (.slice p18 l18 c18) w fun w=>Hld (S w)
 (IdxS s1.1.1 s1.1.2.1 n56 1 fun b48 o48=>StV b48 o48 (.slice p17 l17 c17) w fun w=>Hld (S w) (J3 () w)))) (0,()) w)))) (J3 () w)))) (fun _ s3 w=>zB Tryz.prog 181
 #[.slice pp pl pc] w fun v88 w=>OpS v88 fun p19 l19 c19=>zB Tryz.prog 181 #[.slice qp ql qc] w fun v89 w=>OpS v89 fun p20 l20 c20=>zB Tryz.prog 182 #[.slice
 s1.1.1 s1.1.2.1 s1.1.2.2,.int .i64 n] w fun v90 w=>T2 v90 fun v91 v92=>OpS v91 fun p21 l21 c21=>OpS v92 fun p22 l22 c22=>JoinC (σ:=(Option Addr×Nat×Nat) ×
 Unit) (fun J8=>Cb (((pl:Nat):Int)==0) (J8 ((p21,l21,c21),()) w) (J8 ((p19,l19,c19),()) w)) (fun _ s8 w=>JoinC (σ:=(Option Addr×Nat×Nat)×Unit) (fun
 J9=>Cb (((ql:Nat):Int)==0) (J9 ((p22,l22,c22),()) w) (J9 ((p20,l20,c20),()) w)) (fun _ s9 w=>Ret [] (R (.tuple #[.slice s1.1.1 s1.1.2.1 s1.1.2.2,.slice
 s8.1.1 s8.1.2.1 s8.1.2.2,.slice s9.1.1 s9.1.2.1 s9.1.2.2,.int .i64 0]) w)))))) ((none,0,0),((none,0,0),(0,()))) w))
theorem C_parity_Recover {colsp:Option Addr} {colsl:Nat} {colsc:Nat} {pp:Option Addr} {pl:Nat} {pc:Nat} {qp:Option Addr} {ql:Nat} {qc:Nat} {w:World} {R:Value→World→Prop} (h:F_parity_Recover colsp colsl colsc pp pl pc qp ql qc w R):zB Tryz.prog 110 #[.slice colsp colsl colsc,.slice pp pl pc,.slice qp ql qc] w R:=by
 exact zE (args:=[.slice colsp colsl colsc,.slice pp pl pc,.slice qp ql qc]) (mkAnn [(8,[(6,.slice),(12,.slice),(37,(.int .i64))]),(27,[(115,(.int .i64))])] [(2,[])] [(12,[(12,.slice)]),(35,[(7,.slice)]),(37,[(8,.slice)])] [] []) zD Tryz.func110 rfl rfl (by kernel_rfl) h
def F_layout_Check (g:Array Value) (w:World) (R:Value→World→Prop):Prop :=
 Alc 24 g w fun b w=>LdV b 0 (At w) fun v=>OpI .i64 v fun n=>Cb (decide (n<4)) (Ret [] (R (.int .i64 1) w)) (LdV b 0 (At w) fun v1=>OpI .i64 v1 fun n1=>Cb
 (decide (n1>32)) (Ret [] (R (.int .i64 1) w)) (LdV b 1 (At w) fun v2=>OpI .i64 v2 fun n2=>Cb (decide (n2<1)) (Ret [] (R (.int .i64 1) w)) (LdV b 1 (At w) fun v3 =>
 OpI .i64 v3 fun n3=>Cb (decide (n3>8)) (Ret [] (R (.int .i64 1) w)) (LdV b 2 (At w) fun v4=>OpI .i64 v4 fun n4=>Cb (decide (n4<1)) (Ret [] (R (.int .i64 1) w))
 (LdV b 2 (At w) fun v5=>OpI .i64 v5 fun n5=>Cb (decide (n5>64)) (Ret [] (R (.int .i64 1) w)) (Ret [] (R (.int .i64 0) w)))))))
theorem C_layout_Check {g:Array Value} {w:World} {R:Value→World→Prop} (h:F_layout_Check g w R):zB Tryz.prog 71 #[.agg g] w R:=by
 exact zE (args:=[.agg g]) (mkAnn [] [] [] [] []) zD Tryz.func71 rfl rfl (by kernel_rfl) h
def F_layout_Size (g:Array Value) (w:World) (R:Value→World→Prop):Prop :=
 Alc 24 g w fun b w=>LdA 3 b 0 (At w) fun cs=>zB Tryz.prog 71 #[.agg cs] w fun v w=>OpI .i64 v fun n=>Cb (n !=0) (Ret [] (R (.tuple #[.int .i64 0,.int .i64 n])
 w)) (LdV b 1 (At w) fun v1=>OpI .i64 v1 fun n1=>LdV b 2 (At w) fun v2=>OpI .i64 v2 fun n2=>Ret [] (R (.tuple #[.int .i64 (IntKind.wrap .i64 (n1*n2)),.int .i64
 0]) w))
theorem C_layout_Size {g:Array Value} {w:World} {R:Value→World→Prop} (h:F_layout_Size g w R):zB Tryz.prog 128 #[.agg g] w R:=by
 exact zE (args:=[.agg g]) (mkAnn [] [] [] [] []) zD Tryz.func128 rfl rfl (by kernel_rfl) h
def F_layout_Capacity (g:Array Value) (w:World) (R:Value→World→Prop):Prop :=
 Alc 24 g w fun b w=>LdA 3 b 0 (At w) fun cs=>zB Tryz.prog 71 #[.agg cs] w fun v w=>OpI .i64 v fun n=>Cb (n !=0) (Ret [] (R (.tuple #[.int .i64 0,.int .i64 n])
 w)) (LdV b 0 (At w) fun v1=>OpI .i64 v1 fun n1=>LdV b 1 (At w) fun v2=>OpI .i64 v2 fun n2=>LdV b 2 (At w) fun v3=>OpI .i64 v3 fun n3=>Ret [] (R (.tuple #[.int
 .i64 (IntKind.wrap .i64 ((IntKind.wrap .i64 ((IntKind.wrap .i64 (n1-2))*n2))*n3)),.int .i64 0]) w))
theorem C_layout_Capacity {g:Array Value} {w:World} {R:Value→World→Prop} (h:F_layout_Capacity g w R):zB Tryz.prog 140 #[.agg g] w R:=by
 exact zE (args:=[.agg g]) (mkAnn [] [] [] [] []) zD Tryz.func140 rfl rfl (by kernel_rfl) h
def F_layout_first (g:Array Value) (stripe:Int) (w:World) (R:Value→World→Prop):Prop :=
 Alc 24 g w fun b w=>LdV b 0 (At w) fun v=>OpI .i64 v fun n=>LdV b 0 (At w) fun v1=>OpI .i64 v1 fun n1=>Req (n1≠0) (LdV b 0 (At w) fun v2=>OpI .i64 v2 fun n2
 => Req (n2≠0) (Drw w fun w=>Ret [] (R (.int .i64 (Int.tmod (IntKind.wrap .i64 ((IntKind.wrap .i64 ((IntKind.wrap .i64 (2*n))+1))-(Int.tmod stripe n1))) n2)) w)))
theorem C_layout_first {g:Array Value} {stripe:Int} {w:World} {R:Value→World→Prop} (h:F_layout_first g stripe w R):zB Tryz.prog 174 #[.agg g,.int .i64 stripe] w R:=by
 exact zE (args:=[.agg g,.int .i64 stripe]) (mkAnn [] [] [] [] []) zD Tryz.func174 rfl rfl (by kernel_rfl) h
def F_layout_Map (g:Array Value) (lba:Int) (w:World) (R:Value→World→Prop):Prop :=
 Alc 24 g w fun b w=>Alc 177 (zc Tryz.prog 177) w fun b1 w=>Alc 84 (zc Tryz.prog 84) w fun b2 w=>LdA 3 b 0 (At w) fun cs=>zB Tryz.prog 140 #[.agg cs] w fun v w
 => T2 v fun v1 v2=>OpI .i64 v1 fun n=>OpI .i64 v2 fun n1=>Cb (n1 !=0) (DoQ Tryz.prog (Instr.build 177 #[]) (At w) fun v3=>OpA 3 v3 fun cs1=>DoQ Tryz.prog
 (Instr.build 84 #[]) (At w) fun v4=>OpA 2 v4 fun cs2=>StA 3 b1 0 cs1 w fun w=>StA 2 b2 0 cs2 w fun w=>LdA 3 b1 0 (At w) fun cs3=>LdA 2 b2 0 (At w) fun cs4=>Ret
 [] (R (.tuple #[.agg cs3,.agg cs4,.int .i64 n1]) w)) (Req ((decide (lba<0))=(decide (lba<0))) (Req ((decide (lba<0))=(decide (lba<0))) (Req ((decide (lba <
 0))=(decide (lba<0))) (Cb (cond (decide (lba<0)) true (decide (lba≥n))) (DoQ Tryz.prog (Instr.build 177 #[]) (At w) fun v5=>OpA 3 v5 fun cs5=>DoQ Tryz.prog
 (Instr.build 84 #[]) (At w) fun v6=>OpA 2 v6 fun cs6=>StA 3 b1 0 cs5 w fun w=>StA 2 b2 0 cs6 w fun w=>LdA 3 b1 0 (At w) fun cs7=>LdA 2 b2 0 (At w) fun cs8=>Ret
 [] (R (.tuple #[.agg cs7,.agg cs8,.int .i64 2]) w)) (LdV b 0 (At w) fun v7=>OpI .i64 v7 fun n2=>HeldR w fun S w=>LdV b 1 S fun v8=>OpI .i64 v8 fun n3=>Req
 (IntKind.wrap .i64 ((IntKind.wrap .i64 (n2-2))*n3)≠0) (LdV b 1 S fun v9=>OpI .i64 v9 fun n4=>Req (n4≠0) (Req (IntKind.wrap .i64 (n2-2)≠0) (LdV b 1 S fun
 v10=>OpI .i64 v10 fun n5=>Req (n5≠0) (DoQ Tryz.prog (Instr.build 177 #[(0,.int .i64 (IntKind.wrap .i64 (Int.tdiv lba (IntKind.wrap .i64 ((IntKind.wrap .i64 (n2 -
 2))*n3))))),(1,.int .i64 (Int.tmod (IntKind.wrap .i64 (Int.tdiv lba n4)) (IntKind.wrap .i64 (n2-2)))),(2,.int .i64 (Int.tmod lba n5))]) S fun v11=>OpA 3 v11 fun
 cs9=>Alc 177 (zc Tryz.prog 177) w fun b3 w=>Hld (S w) (StA 3 b3 0 cs9 w fun w=>Hld (S w) (HeldR w fun S w=>LdA 3 b3 0 S fun cs10=>LdA 3 b 0 S fun cs11=>LdV b3
 0 S fun v12=>OpI .i64 v12 fun n6=>LdV b3 1 S fun v13=>OpI .i64 v13 fun n7=>LdV b 0 S fun v14=>OpI .i64 v14 fun n8=>LdV b3 0 S fun v15=>OpI .i64 v15 fun n9 =>
 LdV b 1 S fun v16=>OpI .i64 v16 fun n10=>LdV b3 2 S fun v17=>OpI .i64 v17 fun n11=>zB Tryz.prog 174 #[.agg cs11,.int .i64 n6] w fun v18 w=>OpI .i64 v18 fun
 n12=>Hld (S w) (Req (n8≠0) (DoQ Tryz.prog (Instr.build 84 #[(0,.int .i64 (Int.tmod (IntKind.wrap .i64 (n12+n7)) n8)),(1,.int .i64 (IntKind.wrap .i64
 ((IntKind.wrap .i64 (n9*n10))+n11)))]) S fun v19=>OpA 2 v19 fun cs12=>StA 3 b1 0 cs10 w fun w=>Hld (S w) (StA 2 b2 0 cs12 w fun w=>Hld (S w) (LdA 3 b1 0 (At w)
 fun cs13=>LdA 2 b2 0 (At w) fun cs14=>Ret [] (R (.tuple #[.agg cs13,.agg cs14,.int .i64 0]) w))))))))))))))))
theorem C_layout_Map {g:Array Value} {lba:Int} {w:World} {R:Value→World→Prop} (h:F_layout_Map g lba w R):zB Tryz.prog 105 #[.agg g,.int .i64 lba] w R:=by
 exact zE (args:=[.agg g,.int .i64 lba]) (mkAnn [] [] [] [] [54]) zD Tryz.func105 rfl rfl (by kernel_rfl) h
def F_layout_Row (g:Array Value) (stripe:Int) (off:Int) (w:World) (R:Value→World→Prop):Prop :=
 Alc 24 g w fun b w=>LdA 3 b 0 (At w) fun cs=>zB Tryz.prog 71 #[.agg cs] w fun v w=>OpI .i64 v fun n=>Cb (n !=0) (Ret [] (R (.tuple #[.slice none 0 0,.int .i64
 n]) w)) (Cb (decide (stripe<0)) (Req (true=true) (Req (true=true) (Ret [] (R (.tuple #[.slice none 0 0,.int .i64 2]) w)))) (LdV b 2 (At w) fun v1=>OpI .i64 v1 fun
 n1=>Req ((decide (stripe≥n1))=(decide (stripe≥n1))) (Req ((decide (stripe≥n1))=(decide (stripe≥n1))) (Cb (cond (decide (stripe≥n1)) true (decide (off <
 0))) (Ret [] (R (.tuple #[.slice none 0 0,.int .i64 2]) w)) (LdV b 1 (At w) fun v2=>OpI .i64 v2 fun n2=>Cb (decide (off≥n2)) (Ret [] (R (.tuple #[.slice none 0 0,
 .int .i64 2]) w)) (LdV b 0 (At w) fun v3=>OpI .i64 v3 fun n3=>LoopC (σ:=(Option Addr×Nat×Nat)×Int×Unit) (fun _ s1 w K1=>Cb (decide (s1.2.1<n3)) (HeldR w
 fun S w=>LdA 3 b 0 S fun cs1=>LdV b 0 S fun v4=>OpI .i64 v4 fun n4=>LdV b 1 S fun v5=>OpI .i64 v5 fun n5=>zB Tryz.prog 174 #[.agg cs1,.int .i64 stripe] w
 fun v6 w=>OpI .i64 v6 fun n6=>Hld (S w) (Req (n4≠0) (DoQ Tryz.prog (Instr.build 84 #[(0,.int .i64 (Int.tmod (IntKind.wrap .i64 (n6+s1.2.1)) n4)),(1,.int .i64
 (IntKind.wrap .i64 ((IntKind.wrap .i64 (stripe*n5))+off)))]) S fun v7=>OpA 2 v7 fun cs2=>DoV Tryz.prog (Instr.buildSlice 184 1 #[(0,.agg cs2)]) w fun v8 w=>OpS
 v8 fun p l c=>Hld (S w) (DoV Tryz.prog (Builtin.append_ #[184,184] 184 #[.slice s1.1.1 s1.1.2.1 s1.1.2.2,.slice p l c]) w fun v9 w=>OpS v9 fun p1 l1 c1=>Hld (S w)
 (K1 ((p1,l1,c1),(IntKind.wrap .i64 (s1.2.1+1),())) w))))) (Ret [] (R (.tuple #[.slice s1.1.1 s1.1.2.1 s1.1.2.2,.int .i64 0]) w))) ((none,0,0),(0,())) w))))))
theorem C_layout_Row {g:Array Value} {stripe:Int} {off:Int} {w:World} {R:Value→World→Prop} (h:F_layout_Row g stripe off w R):zB Tryz.prog 109 #[.agg g,.int .i64 stripe,.int .i64 off] w R:=by
 exact zE (args:=[.agg g,.int .i64 stripe,.int .i64 off]) (mkAnn [(8,[(9,.slice),(36,(.int .i64))])] [] [] [] [42]) zD Tryz.func109 rfl rfl (by kernel_rfl) h
def F_disk_New (n:Int) (m:Nat) (w:World) (R:Value→World→Prop):Prop :=
 Req ((decide (n<1))=(decide (n<1))) (Req ((decide (n<1))=(decide (n<1))) (Req ((cond (decide (n<1)) true (decide (n>1024)))=(cond (decide (n<1)) true
 (decide (n>1024)))) (Req ((cond (decide (n<1)) true (decide (n>1024)))=(cond (decide (n<1)) true (decide (n>1024)))) (Cb (cond (cond (decide (n<1)) true
 (decide (n>1024))) true false) (Ret [] (R (.tuple #[.pointer none,.int .i64 2]) w)) (DoV Tryz.prog (Instr.makeSlice 218 (.int .i64 n) (.int .i64 n)) w fun v w=>OpS v
 fun p l c=>DoQ Tryz.prog (Instr.build 220 #[(0,.pointer (some ⟨m,0,none⟩)),(1,.slice p l c)]) (At w) fun v1=>OpA 4 v1 fun cs=>Alc 220 cs w fun b w=>Ret [] (R
 (.tuple #[.pointer (some ⟨b,0,none⟩),.int .i64 0]) w))))))
theorem C_disk_New {n:Int} {m:Nat} {w:World} {R:Value→World→Prop} (h:F_disk_New n m w R):zB Tryz.prog 129 #[.int .i64 n,.pointer (some ⟨m,0,none⟩)] w R:=by
 exact zE (args:=[.int .i64 n,.pointer (some ⟨m,0,none⟩)]) (mkAnn [] [] [] [] []) zD Tryz.func129 rfl rfl (by kernel_rfl) h
def F_disk_Disk_On (d:Nat) (m:Nat) (w:World) (R:Value→World→Prop):Prop :=
 StV d 0 (.pointer (some ⟨m,0,none⟩)) w fun w=>Ret [] (R (.pointer (some ⟨d,0,none⟩)) w)
theorem C_disk_Disk_On {d:Nat} {m:Nat} {w:World} {R:Value→World→Prop} (h:F_disk_Disk_On d m w R):zB Tryz.prog 130 #[.pointer (some ⟨d,0,none⟩),.pointer (some ⟨m,0,none⟩)] w R:=by
 exact zE (args:=[.pointer (some ⟨d,0,none⟩),.pointer (some ⟨m,0,none⟩)]) (mkAnn [] [] [] [] []) zD Tryz.func130 rfl rfl (by kernel_rfl) h
def F_disk_Disk_Size (d:Nat) (w:World) (R:Value→World→Prop):Prop :=
 LdV d 1 (At w) fun v=>OpS v fun p l c=>Ret [] (R (.int .i64 ((l:Nat):Int)) w)
theorem C_disk_Disk_Size {d:Nat} {w:World} {R:Value→World→Prop} (h:F_disk_Disk_Size d w R):zB Tryz.prog 119 #[.pointer (some ⟨d,0,none⟩)] w R:=by
 exact zE (args:=[.pointer (some ⟨d,0,none⟩)]) (mkAnn [] [] [] [] []) zD Tryz.func119 rfl rfl (by kernel_rfl) h
def F_disk_Disk_in (d:Nat) (at_:Int) (w:World) (R:Value→World→Prop):Prop :=
 Req (true=true) (Req (true=true) (Cb (decide (at_≥0)) (LdV d 1 (At w) fun v=>OpS v fun p l c=>Ret [] (R (.bool (decide (at_<((l:Nat):Int)))) w)) (Ret [] (R
 (.bool false) w))))
theorem C_disk_Disk_in {d:Nat} {at_:Int} {w:World} {R:Value→World→Prop} (h:F_disk_Disk_in d at_ w R):zB Tryz.prog 172 #[.pointer (some ⟨d,0,none⟩),.int .i64 at_] w R:=by
 exact zE (args:=[.pointer (some ⟨d,0,none⟩),.int .i64 at_]) (mkAnn [] [] [] [] []) zD Tryz.func172 rfl rfl (by kernel_rfl) h
def F_disk_Disk_Read (d:Nat) (at_:Int) (w:World) (R:Value→World→Prop):Prop :=
 Alc 86 (zc Tryz.prog 86) w fun b w=>zB Tryz.prog 172 #[.pointer (some ⟨d,0,none⟩),.int .i64 at_] w fun v w=>OpB v fun g=>Cb (!g) (DoQ Tryz.prog (Instr.build 86
 #[]) (At w) fun v1=>OpA 17 v1 fun cs=>StA 17 b 0 cs w fun w=>LdA 17 b 0 (At w) fun cs1=>Ret [] (R (.tuple #[.agg cs1,.int .i64 2]) w)) (LdV d 0 (At w) fun v2 =>
 OpN v2 fun b1 o=>zB Tryz.prog 44 #[.pointer (some ⟨b1,o,none⟩)] w fun v3 w=>OpB v3 fun g1=>Cb (!g1) (DoQ Tryz.prog (Instr.build 86 #[]) (At w) fun v4=>OpA 17
 v4 fun cs2=>StA 17 b 0 cs2 w fun w=>LdA 17 b 0 (At w) fun cs3=>Ret [] (R (.tuple #[.agg cs3,.int .i64 4]) w)) (LdV d 3 (At w) fun v5=>OpB v5 fun g2=>Cb g2 (DoQ
 Tryz.prog (Instr.build 86 #[]) (At w) fun v6=>OpA 17 v6 fun cs4=>StA 17 b 0 cs4 w fun w=>LdA 17 b 0 (At w) fun cs5=>Ret [] (R (.tuple #[.agg cs5,.int .i64 5]) w))
 (LdV d 1 (At w) fun v7=>OpS v7 fun p l c=>IdxS p l at_ 18 fun b2 o1=>LdV b2 (o1+17) (At w) fun v8=>OpB v8 fun g3=>Cb (!g3) (DoQ Tryz.prog (Instr.build 86 #[])
 (At w) fun v9=>OpA 17 v9 fun cs6=>StA 17 b 0 cs6 w fun w=>LdA 17 b 0 (At w) fun cs7=>Ret [] (R (.tuple #[.agg cs7,.int .i64 7]) w)) (LdV d 1 (At w) fun v10=>OpS
 v10 fun p1 l1 c1=>IdxS p1 l1 at_ 18 fun b3 o2=>LdA 17 b3 o2 (At w) fun cs8=>StA 17 b 0 cs8 w fun w=>LdA 17 b 0 (At w) fun cs9=>Ret [] (R (.tuple #[.agg cs9,.int
 .i64 0]) w)))))
theorem C_disk_Disk_Read {d:Nat} {at_:Int} {w:World} {R:Value→World→Prop} (h:F_disk_Disk_Read d at_ w R):zB Tryz.prog 175 #[.pointer (some ⟨d,0,none⟩),.int .i64 at_] w R:=by
 exact zE (args:=[.pointer (some ⟨d,0,none⟩),.int .i64 at_]) (mkAnn [] [] [] [] []) zD Tryz.func175 rfl rfl (by kernel_rfl) h
def F_disk_Disk_Write (d:Nat) (at_:Int) (cellsp:Option Addr) (cellsl:Nat) (cellsc:Nat) (epoch:Int) (w:World) (R:Value→World→Prop):Prop :=
 Req (false=false) (Req (false=false) (Cb (decide (at_<0)) (Ret [] (R (.tuple #[.int .i64 0,.int .i64 2]) w)) (LdV d 1 (At w) fun v=>OpS v fun p l c=>Cb (decide
 (at_>((l:Nat):Int))) (Ret [] (R (.tuple #[.int .i64 0,.int .i64 2]) w)) (LdV d 1 (At w) fun v1=>OpS v1 fun p1 l1 c1=>Cb (decide (((cellsl:Nat):Int) >
 IntKind.wrap .i64 (((l1:Nat):Int)-at_))) (Ret [] (R (.tuple #[.int .i64 0,.int .i64 2]) w)) (LdV d 0 (At w) fun v2=>OpN v2 fun b o=>zB Tryz.prog 44
 #[.pointer (some ⟨b,o,none⟩)] w fun v3 w=>OpB v3 fun g=>Cb (!g) (Ret [] (R (.tuple #[.int .i64 0,.int .i64 4]) w)) (LdV d 3 (At w) fun v4=>OpB v4 fun g1=>Cb g1
 (Ret [] (R (.tuple #[.int .i64 0,.int .i64 5]) w)) (LdV d 2 (At w) fun v5=>OpI .u32 v5 fun n=>Cb (decide (epoch<n)) (Ret [] (R (.tuple #[.int .i64 0,.int .i64 6])
 w)) (LoopC (σ:=Int×Unit) (fun _ s1 w K1=>Cb (decide (s1.1<((cellsl:Nat):Int))) (IdxS cellsp cellsl s1.1 17 fun b1 o1=>LdA 17 b1 o1 (At w) fun cs=>Alc 86
 (zc Tryz.prog 86) w fun b2 w=>StA 17 b2 0 cs w fun w=>LdV d 0 (At w) fun v6=>OpN v6 fun b3 o2=>zB Tryz.prog 195 #[.pointer (some ⟨b3,o2,none⟩)] w fun v7 w =>
 OpB v7 fun g2=>Cb (!g2) (Ret [] (R (.tuple #[.int .i64 s1.1,.int .i64 4]) w)) (Dr1 w fun w=>LdV d 1 (At w) fun v8=>OpS v8 fun p2 l2 c2=>LdA 17 b2 0 (At w) fun cs1
 => DoQ Tryz.prog (Instr.build 260 #[(0,.agg cs1),(1,.bool true)]) (At w) fun v9=>OpA 18 v9 fun cs2=>IdxS p2 l2 (IntKind.wrap .i64 (at_+s1.1)) 18 fun b4 o3=>StA
 18 b4 o3 cs2 w fun w=>K1 (IntKind.wrap .i64 (s1.1+1),()) w)) (Ret [] (R (.tuple #[.int .i64 ((cellsl:Nat):Int),.int .i64 0]) w))) (0,()) w))))))))
theorem C_disk_Disk_Write {d:Nat} {at_:Int} {cellsp:Option Addr} {cellsl:Nat} {cellsc:Nat} {epoch:Int} {w:World} {R:Value→World→Prop} (h:F_disk_Disk_Write d at_ cellsp cellsl cellsc epoch w R):zB Tryz.prog 120 #[.pointer (some ⟨d,0,none⟩),.int .i64 at_,.slice cellsp cellsl cellsc,.int .u32 epoch] w R:=by
 exact zE (args:=[.pointer (some ⟨d,0,none⟩),.int .i64 at_,.slice cellsp cellsl cellsc,.int .u32 epoch]) (mkAnn [(10,[(61,(.int .i64))])] [] [] [] []) zD Tryz.func120 rfl rfl (by kernel_rfl) h
def F_disk_Disk_Fence (d:Nat) (epoch:Int) (w:World) (R:Value→World→Prop):Prop :=
 LdV d 0 (At w) fun v=>OpN v fun b o=>zB Tryz.prog 44 #[.pointer (some ⟨b,o,none⟩)] w fun v1 w=>OpB v1 fun g=>Cb (!g) (Ret [] (R (.int .i64 4) w)) (LdV d 3 (At
 w) fun v2=>OpB v2 fun g1=>Cb g1 (Ret [] (R (.int .i64 5) w)) (LdV d 2 (At w) fun v3=>OpI .u32 v3 fun n=>DoQ Tryz.prog (Builtin.max_ #[62,62] 62 #[.int .u32 n,
 .int .u32 epoch]) (At w) fun v4=>OpI .u32 v4 fun n1=>StV d 2 (.int .u32 n1) w fun w=>Ret [] (R (.int .i64 0) w)))
theorem C_disk_Disk_Fence {d:Nat} {epoch:Int} {w:World} {R:Value→World→Prop} (h:F_disk_Disk_Fence d epoch w R):zB Tryz.prog 123 #[.pointer (some ⟨d,0,none⟩),.int .u32 epoch] w R:=by
 exact zE (args:=[.pointer (some ⟨d,0,none⟩),.int .u32 epoch]) (mkAnn [] [] [] [] []) zD Tryz.func123 rfl rfl (by kernel_rfl) h
def F_disk_Disk_Key (d:Nat) (w:World) (R:Value→World→Prop):Prop :=
 LdV d 2 (At w) fun v=>OpI .u32 v fun n=>Ret [] (R (.int .u32 n) w)
theorem C_disk_Disk_Key {d:Nat} {w:World} {R:Value→World→Prop} (h:F_disk_Disk_Key d w R):zB Tryz.prog 125 #[.pointer (some ⟨d,0,none⟩)] w R:=by
 exact zE (args:=[.pointer (some ⟨d,0,none⟩)]) (mkAnn [] [] [] [] []) zD Tryz.func125 rfl rfl (by kernel_rfl) h
def F_disk_Disk_Alive (d:Nat) (w:World) (R:Value→World→Prop):Prop :=
 LdV d 3 (At w) fun v=>OpB v fun g=>Ret [] (R (.bool (!g)) w)
theorem C_disk_Disk_Alive {d:Nat} {w:World} {R:Value→World→Prop} (h:F_disk_Disk_Alive d w R):zB Tryz.prog 87 #[.pointer (some ⟨d,0,none⟩)] w R:=by
 exact zE (args:=[.pointer (some ⟨d,0,none⟩)]) (mkAnn [] [] [] [] []) zD Tryz.func87 rfl rfl (by kernel_rfl) h
def F_stripe_New (g:Array Value) (m:Nat) (w:World) (R:Value→World→Prop):Prop :=
 Alc 24 g w fun b w=>Alc 51 (zc Tryz.prog 51) w fun b1 w=>LdA 3 b 0 (At w) fun cs=>zB Tryz.prog 128 #[.agg cs] w fun v w=>T2 v fun v1 v2=>OpI .i64 v1 fun n =>
 OpI .i64 v2 fun n1=>Cb (n1 !=0) (DoQ Tryz.prog (Instr.build 51 #[]) (At w) fun v3=>OpA 4 v3 fun cs1=>StA 4 b1 0 cs1 w fun w=>LdA 4 b1 0 (At w) fun cs2=>Ret []
 (R (.tuple #[.agg cs2,.int .i64 n1]) w)) (LdA 3 b 0 (At w) fun cs3=>DoQ Tryz.prog (Instr.build 51 #[(0,.agg cs3)]) (At w) fun v4=>OpA 4 v4 fun cs4=>Alc 51 (zc
 Tryz.prog 51) w fun b2 w=>StA 4 b2 0 cs4 w fun w=>zB Tryz.prog 52 #[] w fun v5 w=>OpN v5 fun b3 o=>LdV b 0 (At w) fun v6=>OpI .i64 v6 fun n2=>LoopC (σ :=
 Int×Unit) (fun _ s1 w K1=>Cb (decide (s1.1<n2)) (zB Tryz.prog 129 #[.int .i64 n,.pointer (some ⟨b3,o,none⟩)] w fun v7 w=>T2 v7 fun v8 v9=>OpN v8 fun b4 o1
 => OpI .i64 v9 fun n3=>LoopC (σ:=Int×Unit) (fun _ s2 w K2=>Cb (decide (s2.1<n)) (DoQ Tryz.prog (Instr.build 37 #[]) (At w) fun v10=>OpA 16 v10 fun cs5=>zB
 Tryz.prog 116 #[.int .i64 s2.1,.agg cs5] w fun v11 w=>OpA 17 v11 fun cs6=>DoV Tryz.prog (Instr.buildSlice 167 1 #[(0,.agg cs6)]) w fun v12 w=>OpS v12 fun p l c =>
 zB Tryz.prog 120 #[.pointer (some ⟨b4,o1,none⟩),.int .i64 s2.1,.slice p l c,.int .u32 0] w fun v13 w=>T2 v13 fun v14 v15=>OpI .i64 v14 fun n4=>OpI .i64 v15
 fun n5=>K2 (IntKind.wrap .i64 (s2.1+1),()) w) (HeldR w fun S w=>LdV b2 3 S fun v16=>OpS v16 fun p1 l1 c1=>zB Tryz.prog 130 #[.pointer (some ⟨b4,o1,none⟩),
 .pointer (some ⟨m,0,none⟩)] w fun v17 w=>OpN v17 fun b5 o2=>Hld (S w) (DoV Tryz.prog (Instr.buildSlice 49 1 #[(0,.pointer (some ⟨b5,o2,none⟩))]) w fun v18 w =>
 OpS v18 fun p2 l2 c2=>Hld (S w) (DoV Tryz.prog (Builtin.append_ #[49,49] 49 #[.slice p1 l1 c1,.slice p2 l2 c2]) w fun v19 w=>OpS v19 fun p3 l3 c3=>Hld (S w) (StV
 b2 3 (.slice p3 l3 c3) w fun w=>K1 (IntKind.wrap .i64 (s1.1+1),()) w))))) (0,()) w) (LdA 4 b2 0 (At w) fun cs7=>StA 4 b1 0 cs7 w fun w=>LdA 4 b1 0 (At w) fun cs8
 => Ret [] (R (.tuple #[.agg cs8,.int .i64 0]) w))) (0,()) w)
theorem C_stripe_New {g:Array Value} {m:Nat} {w:World} {R:Value→World→Prop} (h:F_stripe_New g m w R):zB Tryz.prog 53 #[.agg g,.pointer (some ⟨m,0,none⟩)] w R:=by
 exact zE (args:=[.agg g,.pointer (some ⟨m,0,none⟩)]) (mkAnn [(9,[(30,(.int .i64))]),(12,[(39,(.int .i64))])] [] [] [] [54,100027,100035,100054,300000]) zD Tryz.func53 rfl rfl (by kernel_rfl) h
def F_stripe_Check (s:Array Value) (w:World) (R:Value→World→Prop):Prop :=
 Alc 51 s w fun b w=>LdA 3 b 0 (At w) fun cs=>zB Tryz.prog 128 #[.agg cs] w fun v w=>T2 v fun v1 v2=>OpI .i64 v1 fun n=>OpI .i64 v2 fun n1=>Cb (n1 !=0) (Ret
 [] (R (.int .i64 1) w)) (LdV b 3 (At w) fun v3=>OpS v3 fun p l c=>LdV b 0 (At w) fun v4=>OpI .i64 v4 fun n2=>Cb (((l:Nat):Int)!=n2) (Ret [] (R (.int .i64 1)
 w)) (LdV b 3 (At w) fun v5=>OpS v5 fun p1 l1 c1=>LoopC (σ:=Int×Unit) (fun _ s1 w K1=>Cb (decide (s1.1<((l1:Nat):Int))) (IdxS p1 l1 s1.1 1 fun b1 o=>LdV
 b1 o (At w) fun v6=>OpN v6 fun b2 o1=>zB Tryz.prog 119 #[.pointer (some ⟨b2,o1,none⟩)] w fun v7 w=>OpI .i64 v7 fun n3=>Cb (n3 !=n) (Ret [] (R (.int .i64 1)
 w)) (LdV b 3 (At w) fun v8=>OpS v8 fun p2 l2 c2=>Slc l2 c2 none (some s1.1) none fun l3 h m=>LoopC (σ:=Int×Unit) (fun _ s2 w K2=>Cb (decide (s2.1<((h-l3 :
 Nat):Int))) (IdxS (slcP 1 l3 m p2) (h-l3) s2.1 1 fun b3 o2=>LdV b3 o2 (At w) fun v9=>OpN v9 fun b4 o3=>EqB Tryz.prog .eql 111 (.tmp 51) (.tmp 52) (.pointer (some
 ⟨b4,o3,none⟩):Value) (.pointer (some ⟨b2,o1,none⟩):Value) (At w) fun g=>Cb g (Ret [] (R (.int .i64 1) w)) (K2 (IntKind.wrap .i64 (s2.1+1),()) w)) (K1
 (IntKind.wrap .i64 (s1.1+1),()) w)) (0,()) w)) (Ret [] (R (.int .i64 0) w))) (0,()) w))
theorem C_stripe_Check {s:Array Value} {w:World} {R:Value→World→Prop} (h:F_stripe_Check s w R):zB Tryz.prog 93 #[.agg s] w R:=by
 exact zE (args:=[.agg s]) (mkAnn [(5,[(29,(.int .i64))]),(10,[(47,(.int .i64))])] [] [] [] []) zD Tryz.func93 rfl rfl (by kernel_rfl) h
def F_stripe_cell (s:Array Value) (p:Array Value) (w:World) (R:Value→World→Prop):Prop :=
 Alc 51 s w fun b w=>Alc 84 p w fun b1 w=>Alc 37 (zc Tryz.prog 37) w fun b2 w=>HeldR w fun S w=>LdV b 3 S fun v=>OpS v fun p1 l c=>LdV b1 0 S fun v1=>OpI .i64
 v1 fun n=>IdxS p1 l n 1 fun b3 o=>LdV b3 o S fun v2=>OpN v2 fun b4 o1=>LdV b1 1 S fun v3=>OpI .i64 v3 fun n1=>(zB Tryz.prog 175 #[.pointer (some ⟨b4,o1,
 none⟩),.int .i64 n1] w fun v4 w=>T2 v4 fun v5 v6=>OpA 17 v5 fun cs=>OpI .i64 v6 fun n2=>Hld (S w) (Alc 86 (zc Tryz.prog 86) w fun b5 w=>Hld (S w) (StA 17 b5 0
 cs w fun w=>Hld (S w) (Cb (n2==4) (DoQ Tryz.prog (Instr.build 37 #[]) (At w) fun v7=>OpA 16 v7 fun cs1=>StA 16 b2 0 cs1 w fun w=>LdA 16 b2 0 (At w) fun cs2 =>
 Ret [] (R (.tuple #[.agg cs2,.bool false,.int .i64 n2]) w)) (Cb (n2 !=0) (DoQ Tryz.prog (Instr.build 37 #[]) (At w) fun v8=>OpA 16 v8 fun cs3=>StA 16 b2 0 cs3 w fun
 w=>LdA 16 b2 0 (At w) fun cs4=>Ret [] (R (.tuple #[.agg cs4,.bool false,.int .i64 0]) w)) (LdV b1 1 (At w) fun v9=>OpI .i64 v9 fun n3=>LdA 17 b5 0 (At w) fun cs5
 => zB Tryz.prog 176 #[.int .i64 n3,.agg cs5] w fun v10 w=>OpB v10 fun g=>Cb (!g) (DoQ Tryz.prog (Instr.build 37 #[]) (At w) fun v11=>OpA 16 v11 fun cs6=>StA 16
 b2 0 cs6 w fun w=>LdA 16 b2 0 (At w) fun cs7=>Ret [] (R (.tuple #[.agg cs7,.bool false,.int .i64 0]) w)) (LdA 16 b5 0 (At w) fun cs8=>StA 16 b2 0 cs8 w fun w =>
 LdA 16 b2 0 (At w) fun cs9=>Ret [] (R (.tuple #[.agg cs9,.bool true,.int .i64 0]) w))))))))∧(Alc 86 (zc Tryz.prog 86) w fun b6 w=>Hld (S w) (zB Tryz.prog 175
 #[.pointer (some ⟨b4,o1,none⟩),.int .i64 n1] w fun v12 w=>T2 v12 fun v13 v14=>OpA 17 v13 fun cs10=>OpI .i64 v14 fun n4=>Hld (S w) (StA 17 b6 0 cs10 w fun w =>
 Hld (S w) (Cb (n4==4) (DoQ Tryz.prog (Instr.build 37 #[]) (At w) fun v15=>OpA 16 v15 fun cs11=>StA 16 b2 0 cs11 w fun w=>LdA 16 b2 0 (At w) fun cs12=>Ret [] (R
 (.tuple #[.agg cs12,.bool false,.int .i64 n4]) w)) (Cb (n4 !=0) (DoQ Tryz.prog (Instr.build 37 #[]) (At w) fun v16=>OpA 16 v16 fun cs13=>StA 16 b2 0 cs13 w fun w =>
 LdA 16 b2 0 (At w) fun cs14=>Ret [] (R (.tuple #[.agg cs14,.bool false,.int .i64 0]) w)) (LdV b1 1 (At w) fun v17=>OpI .i64 v17 fun n5=>LdA 17 b6 0 (At w) fun cs15
 => zB Tryz.prog 176 #[.int .i64 n5,.agg cs15] w fun v18 w=>OpB v18 fun g1=>Cb (!g1) (DoQ Tryz.prog (Instr.build 37 #[]) (At w) fun v19=>OpA 16 v19 fun cs16 =>
 StA 16 b2 0 cs16 w fun w=>LdA 16 b2 0 (At w) fun cs17=>Ret [] (R (.tuple #[.agg cs17,.bool false,.int .i64 0]) w)) (LdA 16 b6 0 (At w) fun cs18=>StA 16 b2 0 cs18 w
 fun w=>LdA 16 b2 0 (At w) fun cs19=>Ret [] (R (.tuple #[.agg cs19,.bool true,.int .i64 0]) w))))))))
theorem C_stripe_cell {s:Array Value} {p:Array Value} {w:World} {R:Value→World→Prop} (h:F_stripe_cell s p w R):zB Tryz.prog 106 #[.agg s,.agg p] w R:=by
 exact zE (args:=[.agg s,.agg p]) (mkAnn [] [] [] [] [18]) zD Tryz.func106 rfl rfl (by kernel_rfl) h
def F_stripe_Row (s:Array Value) (stripe:Int) (off:Int) (w:World) (R:Value→World→Prop):Prop :=
 Alc 51 s w fun b w=>LdA 4 b 0 (At w) fun cs=>zB Tryz.prog 93 #[.agg cs] w fun v w=>OpI .i64 v fun n=>Cb (n !=0) (Ret [] (R (.tuple #[.slice none 0 0,.slice
 none 0 0,.int .i64 n]) w)) (LdA 3 b 0 (At w) fun cs1=>zB Tryz.prog 109 #[.agg cs1,.int .i64 stripe,.int .i64 off] w fun v1 w=>T2 v1 fun v2 v3=>OpS v2 fun p l c
 => OpI .i64 v3 fun n1=>Cb (n1 !=0) (Ret [] (R (.tuple #[.slice none 0 0,.slice none 0 0,.int .i64 n1]) w)) (DoV Tryz.prog (Instr.makeSlice 187 (.int .i64 ((l:Nat) :
 Int)) (.int .i64 ((l:Nat):Int))) w fun v4 w=>OpS v4 fun p1 l1 c1=>LoopC (σ:=(Option Addr×Nat×Nat)×(Option Addr×Nat×Nat)×Int×Unit) (fun _ s1 w K1 =>
 Cb (decide (s1.2.2.1<((l:Nat):Int))) (IdxS p l s1.2.2.1 2 fun b1 o=>LdA 2 b1 o (At w) fun cs2=>Alc 84 (zc Tryz.prog 84) w fun b2 w=>StA 2 b2 0 cs2 w fun w =>
 LdA 4 b 0 (At w) fun cs3=>LdA 2 b2 0 (At w) fun cs4=>zB Tryz.prog 106 #[.agg cs3,.agg cs4] w fun v5 w=>T3 v5 fun v6 v7 v8=>OpA 16 v6 fun cs5=>OpB v7 fun g =>
 OpI .i64 v8 fun n2=>Alc 37 (zc Tryz.prog 37) w fun b3 w=>StA 16 b3 0 cs5 w fun w=>Cb (n2 !=0) (Ret [] (R (.tuple #[.slice none 0 0,.slice none 0 0,.int .i64 n2])
 w)) (Cb g (Slc 16 16 none none none fun l2 h m=>IdxS p1 l1 s1.2.2.1 1 fun b4 o1=>StV b4 o1 (.slice (slcP 1 l2 m (some ⟨b3,0,none⟩)) (h-l2) (m-l2)) w fun w=>K1
 ((s1.1.1,s1.1.2.1,s1.1.2.2),((s1.2.1.1,s1.2.1.2.1,s1.2.1.2.2),(IntKind.wrap .i64 (s1.2.2.1+1),()))) w) (DoV Tryz.prog (Instr.buildSlice 69 1 #[(0,.int .i64
 s1.2.2.1)]) w fun v9 w=>OpS v9 fun p2 l3 c2=>DoV Tryz.prog (Builtin.append_ #[69,69] 69 #[.slice s1.2.1.1 s1.2.1.2.1 s1.2.1.2.2,.slice p2 l3 c2]) w fun v10 w=>OpS
 v10 fun p3 l4 c3=>K1 ((s1.1.1,s1.1.2.1,s1.1.2.2),((p3,l4,c3),(IntKind.wrap .i64 (s1.2.2.1+1),()))) w))) (Cb (decide (((s1.2.1.2.1:Nat):Int)>2)) (Ret [] (R
 (.tuple #[.slice none 0 0,.slice none 0 0,.int .i64 8]) w)) (HeldR w fun S w=>Slc l1 c1 none (some (IntKind.wrap .i64 (((l1:Nat):Int)-2))) none fun l5 h1 m1 =>
 IdxS p1 l1 (IntKind.wrap .i64 (((l1:Nat):Int)-2)) 1 fun b5 o2=>LdV b5 o2 (At w) fun v11=>OpS v11 fun p4 l6 c4=>IdxS p1 l1 (IntKind.wrap .i64 ((IntKind.wrap
 .i64 (((l1:Nat):Int)-2))+1)) 1 fun b6 o3=>LdV b6 o3 (At w) fun v12=>OpS v12 fun p5 l7 c5=>zB Tryz.prog 110 #[.slice (slcP 1 l5 m1 p1) (h1-l5) (m1-l5),
 .slice p4 l6 c4,.slice p5 l7 c5] w fun v13 w=>T4 v13 fun v14 v15 v16 v17=>OpS v14 fun p6 l8 c6=>OpS v15 fun p7 l9 c7=>OpS v16 fun p8 l10 c8=>OpI .i64 v17 fun n3
 => Hld (S w) (DoV Tryz.prog (Instr.buildSlice 187 2 #[(0,.slice p7 l9 c7),(1,.slice p8 l10 c8)]) w fun v18 w=>OpS v18 fun p9 l11 c9=>DoV Tryz.prog (Builtin.append_
 #[187,187] 187 #[.slice p6 l8 c6,.slice p9 l11 c9]) w fun v19 w=>OpS v19 fun p10 l12 c10=>LoopC (σ:=(Option Addr×Nat×Nat)×Int×Unit) (fun _ s2 w K2=>Cb
 (decide (s2.2.1<((l12:Nat):Int))) (IdxS p10 l12 s2.2.1 1 fun b7 o4=>LdV b7 o4 (At w) fun v20=>OpS v20 fun p11 l13 c11=>SlArr p11 l13 16 fun b8 o5=>LdA 16 b8
 o5 (At w) fun cs6=>DoV Tryz.prog (Instr.buildSlice 32 1 #[(0,.agg cs6)]) w fun v21 w=>OpS v21 fun p12 l14 c12=>DoV Tryz.prog (Builtin.append_ #[32,32] 32 #[.slice
 s2.1.1 s2.1.2.1 s2.1.2.2,.slice p12 l14 c12]) w fun v22 w=>OpS v22 fun p13 l15 c13=>K2 ((p13,l15,c13),(IntKind.wrap .i64 (s2.2.1+1),())) w) (Ret [] (R (.tuple
 #[.slice s2.1.1 s2.1.2.1 s2.1.2.2,.slice s1.2.1.1 s1.2.1.2.1 s1.2.1.2.2,.int .i64 0]) w))) ((s1.1.1,s1.1.2.1,s1.1.2.2),(0,())) w)))) ((none,0,0),((none,0,0),
 (0,()))) w))
theorem C_stripe_Row {s:Array Value} {stripe:Int} {off:Int} {w:World} {R:Value→World→Prop} (h:F_stripe_Row s stripe off w R):zB Tryz.prog 31 #[.agg s,.int .i64 stripe,.int .i64 off] w R:=by
 exact zE (args:=[.agg s,.int .i64 stripe,.int .i64 off]) (mkAnn [(9,[(6,.slice),(7,.slice),(45,(.int .i64))]),(23,[(6,.slice),(102,(.int .i64))])] [] [] [] [91]) zD Tryz.func31 rfl rfl (by kernel_rfl) h
def F_stripe_Read (s:Array Value) (lba:Int) (w:World) (R:Value→World→Prop):Prop :=
 Alc 51 s w fun b w=>Alc 37 (zc Tryz.prog 37) w fun b1 w=>LdA 4 b 0 (At w) fun cs=>zB Tryz.prog 93 #[.agg cs] w fun v w=>OpI .i64 v fun n=>Cb (n !=0) (DoQ
 Tryz.prog (Instr.build 37 #[]) (At w) fun v1=>OpA 16 v1 fun cs1=>StA 16 b1 0 cs1 w fun w=>LdA 16 b1 0 (At w) fun cs2=>Ret [] (R (.tuple #[.agg cs2,.int .i64 n])
 w)) (LdA 3 b 0 (At w) fun cs3=>zB Tryz.prog 105 #[.agg cs3,.int .i64 lba] w fun v2 w=>T3 v2 fun v3 v4 v5=>OpA 3 v3 fun cs4=>OpA 2 v4 fun cs5=>OpI .i64 v5 fun
 n1=>Alc 177 (zc Tryz.prog 177) w fun b2 w=>Alc 84 (zc Tryz.prog 84) w fun b3 w=>StA 3 b2 0 cs4 w fun w=>StA 2 b3 0 cs5 w fun w=>Cb (n1 !=0) (DoQ Tryz.prog
 (Instr.build 37 #[]) (At w) fun v6=>OpA 16 v6 fun cs6=>StA 16 b1 0 cs6 w fun w=>LdA 16 b1 0 (At w) fun cs7=>Ret [] (R (.tuple #[.agg cs7,.int .i64 n1]) w)) (LdA 4
 b 0 (At w) fun cs8=>LdA 2 b3 0 (At w) fun cs9=>zB Tryz.prog 106 #[.agg cs8,.agg cs9] w fun v7 w=>T3 v7 fun v8 v9 v10=>OpA 16 v8 fun cs10=>OpB v9 fun g=>OpI
 .i64 v10 fun n2=>Alc 37 (zc Tryz.prog 37) w fun b4 w=>StA 16 b4 0 cs10 w fun w=>Req (g=g) (Req (g=g) (Cb (cond g true (n2 !=0)) (LdA 16 b4 0 (At w) fun cs11 =>
 StA 16 b1 0 cs11 w fun w=>LdA 16 b1 0 (At w) fun cs12=>Ret [] (R (.tuple #[.agg cs12,.int .i64 n2]) w)) (LdA 4 b 0 (At w) fun cs13=>LdV b2 0 (At w) fun v11=>OpI
 .i64 v11 fun n3=>LdV b2 2 (At w) fun v12=>OpI .i64 v12 fun n4=>zB Tryz.prog 31 #[.agg cs13,.int .i64 n3,.int .i64 n4] w fun v13 w=>T3 v13 fun v14 v15 v16 =>
 OpS v14 fun p l c=>OpS v15 fun p1 l1 c1=>OpI .i64 v16 fun n5=>Cb (n5 !=0) (DoQ Tryz.prog (Instr.build 37 #[]) (At w) fun v17=>OpA 16 v17 fun cs14=>StA 16 b1 0
 cs14 w fun w=>LdA 16 b1 0 (At w) fun cs15=>Ret [] (R (.tuple #[.agg cs15,.int .i64 n5]) w)) (LdV b2 1 (At w) fun v18=>OpI .i64 v18 fun n6=>IdxS p l n6 16 fun b5 o
 => LdA 16 b5 o (At w) fun cs16=>StA 16 b1 0 cs16 w fun w=>LdA 16 b1 0 (At w) fun cs17=>Ret [] (R (.tuple #[.agg cs17,.int .i64 0]) w)))))))
theorem C_stripe_Read {s:Array Value} {lba:Int} {w:World} {R:Value→World→Prop} (h:F_stripe_Read s lba w R):zB Tryz.prog 29 #[.agg s,.int .i64 lba] w R:=by
 exact zE (args:=[.agg s,.int .i64 lba]) (mkAnn [] [] [] [] []) zD Tryz.func29 rfl rfl (by kernel_rfl) h
def F_stripe_Plan (s:Array Value) (lba:Int) (data:Array Value) (w:World) (R:Value→World→Prop):Prop :=
 Alc 51 s w fun b w=>Alc 37 data w fun b1 w=>LdA 4 b 0 (At w) fun cs=>zB Tryz.prog 93 #[.agg cs] w fun v w=>OpI .i64 v fun n=>Cb (n !=0) (Ret [] (R (.tuple
 #[.slice none 0 0,.int .i64 n]) w)) (LdA 3 b 0 (At w) fun cs1=>zB Tryz.prog 105 #[.agg cs1,.int .i64 lba] w fun v1 w=>T3 v1 fun v2 v3 v4=>OpA 3 v2 fun cs2 =>
 OpA 2 v3 fun cs3=>OpI .i64 v4 fun n1=>Alc 177 (zc Tryz.prog 177) w fun b2 w=>Alc 84 (zc Tryz.prog 84) w fun b3 w=>StA 3 b2 0 cs2 w fun w=>StA 2 b3 0 cs3 w fun w
 => Cb (n1 !=0) (Ret [] (R (.tuple #[.slice none 0 0,.int .i64 n1]) w)) (LdA 4 b 0 (At w) fun cs4=>LdV b2 0 (At w) fun v5=>OpI .i64 v5 fun n2=>LdV b2 2 (At w) fun
 v6=>OpI .i64 v6 fun n3=>zB Tryz.prog 31 #[.agg cs4,.int .i64 n2,.int .i64 n3] w fun v7 w=>T3 v7 fun v8 v9 v10=>OpS v8 fun p l c=>OpS v9 fun p1 l1 c1=>OpI
 .i64 v10 fun n4=>Cb (n4 !=0) (Ret [] (R (.tuple #[.slice none 0 0,.int .i64 n4]) w)) (LdV b2 1 (At w) fun v11=>OpI .i64 v11 fun n5=>LdA 16 b1 0 (At w) fun cs5 =>
 IdxS p l n5 16 fun b4 o=>StA 16 b4 o cs5 w fun w=>LoopC (σ:=(Option Addr×Nat×Nat)×Int×Unit) (fun _ s1 w K1=>Cb (decide (s1.2.1<IntKind.wrap .i64 (((l :
 Nat):Int)-2))) (IdxS p l s1.2.1 16 fun b5 o1=>Slc 16 16 none none none fun l2 h m=>DoV Tryz.prog (Instr.buildSlice 187 1 #[(0,.slice (slcP 1 l2 m (some ⟨b5,o1,
 none⟩)) (h-l2) (m-l2))]) w fun v12 w=>OpS v12 fun p2 l3 c2=>DoV Tryz.prog (Builtin.append_ #[187,187] 187 #[.slice s1.1.1 s1.1.2.1 s1.1.2.2,.slice p2 l3 c2]) w
 fun v13 w=>OpS v13 fun p3 l4 c3=>K1 ((p3,l4,c3),(IntKind.wrap .i64 (s1.2.1+1),())) w) (zB Tryz.prog 115 #[.slice s1.1.1 s1.1.2.1 s1.1.2.2] w fun v14 w=>T3
 v14 fun v15 v16 v17=>OpS v15 fun p4 l5 c4=>OpS v16 fun p5 l6 c5=>OpI .i64 v17 fun n6=>HeldR w fun S w=>SlArr p4 l5 16 fun b6 o2=>LdA 16 b6 o2 (At w) fun cs6 =>
 SlArr p5 l6 16 fun b7 o3=>LdA 16 b7 o3 (At w) fun cs7=>IdxS p l (IntKind.wrap .i64 (((l:Nat):Int)-2)) 16 fun b8 o4=>StA 16 b8 o4 cs6 w fun w=>Hld (S w) (IdxS
 p l (IntKind.wrap .i64 ((IntKind.wrap .i64 (((l:Nat):Int)-2))+1)) 16 fun b9 o5=>StA 16 b9 o5 cs7 w fun w=>Hld (S w) (LdA 3 b 0 (At w) fun cs8=>LdV b2 0 (At
 w) fun v18=>OpI .i64 v18 fun n7=>LdV b2 2 (At w) fun v19=>OpI .i64 v19 fun n8=>zB Tryz.prog 109 #[.agg cs8,.int .i64 n7,.int .i64 n8] w fun v20 w=>T2 v20
 fun v21 v22=>OpS v21 fun p6 l7 c6=>OpI .i64 v22 fun n9=>LdV b2 1 (At w) fun v23=>OpI .i64 v23 fun n10=>DoV Tryz.prog (Instr.buildSlice 69 3 #[(0,.int .i64 n10),
 (1,.int .i64 (IntKind.wrap .i64 (((l:Nat):Int)-2))),(2,.int .i64 (IntKind.wrap .i64 ((IntKind.wrap .i64 (((l:Nat):Int)-2))+1)))]) w fun v24 w=>OpS v24
 fun p7 l8 c7=>LoopC (σ:=(Option Addr×Nat×Nat)×Int×Unit) (fun _ s2 w K2=>Cb (decide (s2.2.1<((l8:Nat):Int))) (IdxS p7 l8 s2.2.1 1 fun b10 o6=>LdV b10
 o6 (At w) fun v25=>OpI .i64 v25 fun n11=>IdxS p6 l7 n11 2 fun b11 o7=>LdA 2 b11 o7 (At w) fun cs9=>Alc 84 (zc Tryz.prog 84) w fun b12 w=>StA 2 b12 0 cs9 w fun w
 => LdV b 3 (At w) fun v26=>OpS v26 fun p8 l9 c8=>LdV b12 0 (At w) fun v27=>OpI .i64 v27 fun n12=>IdxS p8 l9 n12 1 fun b13 o8=>LdV b13 o8 (At w) fun v28=>OpN
 v28 fun b14 o9=>zB Tryz.prog 87 #[.pointer (some ⟨b14,o9,none⟩)] w fun v29 w=>OpB v29 fun g=>Cb g (HeldR w fun S w=>LdA 2 b12 0 S fun cs10=>LdV b12 1 S fun
 v30=>OpI .i64 v30 fun n13=>IdxS p l n11 16 fun b15 o10=>LdA 16 b15 o10 S fun cs11=>zB Tryz.prog 116 #[.int .i64 n13,.agg cs11] w fun v31 w=>OpA 17 v31 fun
 cs12=>Hld (S w) (DoQ Tryz.prog (Instr.build 88 #[(0,.agg cs10),(1,.agg cs12)]) S fun v32=>OpA 19 v32 fun cs13=>DoV Tryz.prog (Instr.buildSlice 75 1 #[(0,.agg
 cs13)]) w fun v33 w=>OpS v33 fun p9 l10 c9=>Hld (S w) (DoV Tryz.prog (Builtin.append_ #[75,75] 75 #[.slice s2.1.1 s2.1.2.1 s2.1.2.2,.slice p9 l10 c9]) w fun v34 w =>
 OpS v34 fun p10 l11 c10=>Hld (S w) (K2 ((p10,l11,c10),(IntKind.wrap .i64 (s2.2.1+1),())) w)))) (K2 ((s2.1.1,s2.1.2.1,s2.1.2.2),(IntKind.wrap .i64 (s2.2.1+1),
 ())) w)) (Ret [] (R (.tuple #[.slice s2.1.1 s2.1.2.1 s2.1.2.2,.int .i64 0]) w))) ((none,0,0),(0,())) w)))) ((none,0,0),(0,())) w)))
theorem C_stripe_Plan {s:Array Value} {lba:Int} {data:Array Value} {w:World} {R:Value→World→Prop} (h:F_stripe_Plan s lba data w R):zB Tryz.prog 35 #[.agg s,.int .i64 lba,.agg data] w R:=by
 exact zE (args:=[.agg s,.int .i64 lba,.agg data]) (mkAnn [(14,[(15,.slice),(64,(.int .i64))]),(23,[(22,.slice),(111,(.int .i64))])] [] [] [] [134]) zD Tryz.func35 rfl rfl (by kernel_rfl) h
def F_stripe_Apply (s:Array Value) (putsp:Option Addr) (putsl:Nat) (putsc:Nat) (epoch:Int) (w:World) (R:Value→World→Prop):Prop :=
 Alc 51 s w fun b w=>LdA 4 b 0 (At w) fun cs=>zB Tryz.prog 93 #[.agg cs] w fun v w=>OpI .i64 v fun n=>Cb (n !=0) (Ret [] (R (.int .i64 n) w)) (LoopC (σ:=Int ×
 Unit) (fun _ s1 w K1=>Cb (decide (s1.1<((putsl:Nat):Int))) (IdxS putsp putsl s1.1 19 fun b1 o=>LdA 19 b1 o (At w) fun cs1=>Alc 88 (zc Tryz.prog 88) w fun b2 w
 => StA 19 b2 0 cs1 w fun w=>LdV b2 0 (At w) fun v1=>OpI .i64 v1 fun n1=>Cb (decide (n1<0)) (Drw w fun w=>Ret [] (R (.int .i64 2) w)) (LdV b2 0 (At w) fun v2 =>
 OpI .i64 v2 fun n2=>LdV b 3 (At w) fun v3=>OpS v3 fun p l c=>Cb (decide (n2≥((l:Nat):Int))) (Drw w fun w=>Ret [] (R (.int .i64 2) w)) (LdV b2 1 (At w) fun v4
 => OpI .i64 v4 fun n3=>Cb (decide (n3<0)) (Drw w fun w=>Ret [] (R (.int .i64 2) w)) (LdV b2 1 (At w) fun v5=>OpI .i64 v5 fun n4=>LdV b 3 (At w) fun v6=>OpS v6
 fun p1 l1 c1=>IdxS p1 l1 0 1 fun b3 o1=>LdV b3 o1 (At w) fun v7=>OpN v7 fun b4 o2=>CallQ Tryz.prog 119 #[.pointer (some ⟨b4,o2,none⟩)] (At w) fun v8=>OpI .i64
 v8 fun n5=>Drw w fun w=>Cb (decide (n4≥n5)) (Ret [] (R (.int .i64 2) w)) (K1 (IntKind.wrap .i64 (s1.1+1),()) w))))) (LoopC (σ:=Int×Unit) (fun _ s2 w K2=>Cb
 (decide (s2.1<((putsl:Nat):Int))) (IdxS putsp putsl s2.1 19 fun b5 o3=>LdA 19 b5 o3 (At w) fun cs2=>Alc 88 (zc Tryz.prog 88) w fun b6 w=>StA 19 b6 0 cs2 w fun
 w=>HeldR w fun S w=>LdV b 3 S fun v9=>OpS v9 fun p2 l2 c2=>LdV b6 0 S fun v10=>OpI .i64 v10 fun n6=>IdxS p2 l2 n6 1 fun b7 o4=>LdV b7 o4 S fun v11=>OpN v11
 fun b8 o5=>LdV b6 1 S fun v12=>OpI .i64 v12 fun n7=>LdA 17 b6 2 S fun cs3=>DoV Tryz.prog (Instr.buildSlice 167 1 #[(0,.agg cs3)]) w fun v13 w=>OpS v13 fun p3 l3
 c3=>Hld (S w) (zB Tryz.prog 120 #[.pointer (some ⟨b8,o5,none⟩),.int .i64 n7,.slice p3 l3 c3,.int .u32 epoch] w fun v14 w=>T2 v14 fun v15 v16=>OpI .i64 v15
 fun n8=>OpI .i64 v16 fun n9=>Hld (S w) (Req ((n9 !=0)=(n9 !=0)) (Req ((n9 !=0)=(n9 !=0)) (Cb (cond (n9 !=0) (n9 !=5) false) (Ret [] (R (.int .i64 n9) w)) (K2
 (IntKind.wrap .i64 (s2.1+1),()) w)))))) (Ret [] (R (.int .i64 0) w))) (0,()) w)) (0,()) w)
theorem C_stripe_Apply {s:Array Value} {putsp:Option Addr} {putsl:Nat} {putsc:Nat} {epoch:Int} {w:World} {R:Value→World→Prop} (h:F_stripe_Apply s putsp putsl putsc epoch w R):zB Tryz.prog 38 #[.agg s,.slice putsp putsl putsc,.int .u32 epoch] w R:=by
 exact zE (args:=[.agg s,.slice putsp putsl putsc,.int .u32 epoch]) (mkAnn [(5,[(21,(.int .i64))]),(11,[(58,(.int .i64))])] [] [] [] [77]) zD Tryz.func38 rfl rfl (by kernel_rfl) h
def F_stripe_Key (s:Array Value) (w:World) (R:Value→World→Prop):Prop :=
 Alc 51 s w fun b w=>LdA 4 b 0 (At w) fun cs=>zB Tryz.prog 93 #[.agg cs] w fun v w=>OpI .i64 v fun n=>Cb (n !=0) (Ret [] (R (.int .u32 0) w)) (LdV b 3 (At w)
 fun v1=>OpS v1 fun p l c=>LoopC (σ:=Int×Int×Unit) (fun _ s1 w K1=>Cb (decide (s1.2.1<((l:Nat):Int))) (IdxS p l s1.2.1 1 fun b1 o=>LdV b1 o (At w) fun
 v2=>OpN v2 fun b2 o1=>zB Tryz.prog 87 #[.pointer (some ⟨b2,o1,none⟩)] w fun v3 w=>OpB v3 fun g=>Cb g (zB Tryz.prog 125 #[.pointer (some ⟨b2,o1,none⟩)] w
 fun v4 w=>OpI .u32 v4 fun n1=>DoQ Tryz.prog (Builtin.max_ #[62,62] 62 #[.int .u32 s1.1,.int .u32 n1]) (At w) fun v5=>OpI .u32 v5 fun n2=>K1 (n2,(IntKind.wrap
 .i64 (s1.2.1+1),())) w) (K1 (s1.1,(IntKind.wrap .i64 (s1.2.1+1),())) w)) (Ret [] (R (.int .u32 s1.1) w))) (0,(0,())) w)
theorem C_stripe_Key {s:Array Value} {w:World} {R:Value→World→Prop} (h:F_stripe_Key s w R):zB Tryz.prog 42 #[.agg s] w R:=by
 exact zE (args:=[.agg s]) (mkAnn [(5,[(3,(.int .u32)),(12,(.int .i64))])] [] [] [] []) zD Tryz.func42 rfl rfl (by kernel_rfl) h
def F_stripe_Fence (s:Array Value) (epoch:Int) (w:World) (R:Value→World→Prop):Prop :=
 Alc 51 s w fun b w=>LdA 4 b 0 (At w) fun cs=>zB Tryz.prog 93 #[.agg cs] w fun v w=>OpI .i64 v fun n=>Cb (n !=0) (Ret [] (R (.int .i64 n) w)) (LdV b 3 (At w)
 fun v1=>OpS v1 fun p l c=>LoopC (σ:=Int×Unit) (fun _ s1 w K1=>Cb (decide (s1.1<((l:Nat):Int))) (IdxS p l s1.1 1 fun b1 o=>LdV b1 o (At w) fun v2=>OpN
 v2 fun b2 o1=>zB Tryz.prog 123 #[.pointer (some ⟨b2,o1,none⟩),.int .u32 epoch] w fun v3 w=>OpI .i64 v3 fun n1=>Cb (n1==4) (Ret [] (R (.int .i64 n1) w)) (K1
 (IntKind.wrap .i64 (s1.1+1),()) w)) (Ret [] (R (.int .i64 0) w))) (0,()) w)
theorem C_stripe_Fence {s:Array Value} {epoch:Int} {w:World} {R:Value→World→Prop} (h:F_stripe_Fence s epoch w R):zB Tryz.prog 40 #[.agg s,.int .u32 epoch] w R:=by
 exact zE (args:=[.agg s,.int .u32 epoch]) (mkAnn [(5,[(17,(.int .i64))])] [] [] [] []) zD Tryz.func40 rfl rfl (by kernel_rfl) h
end Go.Proofs
namespace Go.Proofs
open Go Go.Ev
set_option maxRecDepth 100000
structure Cel where
 data:Sec
 sum:Int
def celL (c:Cel):List Value:=(secV c.data).toList++[.int .u32 c.sum]
def celV (c:Cel):Array Value:=(celL c).toArray
theorem one_celV (c:Cel):∀ v∈(celV c).toList,oneV v=true:=by
 intro v hv
 have hv:v∈(secV c.data).toList++[.int .u32 c.sum]:=by simpa [celV,celL] using hv
 rcases List.mem_append.1 hv with h | h
 ·exact one_secV _ v h
 ·rw [List.mem_singleton.1 h];rfl
def atB (at_:Int) (k:Nat):Int:=IntKind.wrap .u8 (ishr .i64 at_ (56-8*(k:Int)))
def atBs (at_:Int):List Int:=[atB at_ 0,atB at_ 1,atB at_ 2,atB at_ 3,atB at_ 4,atB at_ 5,atB at_ 6,atB at_ 7]
def sumS (at_:Int) (d:Sec):Int:=crcS (atBs at_++secB d)
section calls
variable {w:World} {R:Value→World→Prop}
theorem s_Seal {at_:Int} {d:Sec} (hK:∀ w',Keep (fun _=>False) w w'→R (.agg (celV ⟨d,sumS at_ d⟩)) w'):zB Tryz.prog 116 #[.int .i64 at_,.agg (secV d)] w R:=by
 apply C_sum_Seal
 unfold F_sum_Seal
 refine alc_fresh fun w1 hb1 k1 z1=>?_
 refine alc_fresh fun w2 hb2 k2 z2=>?_
 refine alc_fresh fun w3 hb3 k3 z3=>?_
 have z24:zc Tryz.prog 285=ofF 24 fun _=>.int .u8 0:=by kernel_rfl
 rw [z24] at hb3
 have hd3:=k3.has (k2.has hb1 (by simp)) (by simp)
 have hc3:=k3.has hb2 (by simp)
 have k03:=(k1.trans k2).trans k3
 have hs2:w.heap.size<w2.heap.size:=by omega
 have hs12:w1.heap.size<w2.heap.size:=by omega
 have hs01:w.heap.size<w1.heap.size:=by omega
 generalize w2.heap.size=b2 at *
 generalize w1.heap.size=b1 at *
 generalize hb:w.heap.size=b at *
 refine LoopC_of (σ:=Int×Unit) (fun st w'=>∃ k:Nat,st.1=(k:Int)∧k≤8∧Has w' b2 (.cells (ofF 24 fun j=>if j<k then .int .u8 (atB at_ j) else .int .u8 0) 285 (0,0))∧Keep (fun k=>k=b2) w3 w') (fun st _=>(8-st.1).toNat)
  ⟨0,rfl,by omega,by simpa using hb3,Keep.refl _ _⟩ ?_
 rintro _ ⟨i,u⟩ w4 ⟨k,hi,hk,h4,k4⟩
 simp only at hi ⊢
 subst hi
 refine Cb_of (fun hc=>?_) (fun hc=>?_)
 ·have hc:k<8:=by
   have:(k:Int)<8:=by simpa using hc
   omega
  have e1:IntKind.wrap .i64 (8*(k:Int))=8*(k:Int):=wrapI (by omega) (by omega)
  have e2:IntKind.wrap .i64 (56-8*(k:Int))=56-8*(k:Int):=wrapI (by omega) (by omega)
  have e3:IntKind.wrap .i64 ((k:Int)+1)=((k+1:Nat):Int):=by rw [wrapI (by omega) (by omega)];omega
  rw [e1,e2,e3]
  refine ⟨by omega,by omega,?_⟩
  refine StV_of h4 (by simp;omega) rfl ?_
  refine ⟨_,by show (8-((k+1:Nat):Int)).toNat<(8-(k:Int)).toNat;omega,⟨k+1,rfl,by omega,?_,k4.upd (fun _=>rfl) _⟩,rfl⟩
  have:=h4.upd_same (.cells ((ofF 24 fun j=>if j<k then .int .u8 (atB at_ j) else .int .u8 0).setIfInBounds (0+(k:Int).toNat*1) (.int .u8 (atB at_ k))) 285 (0,0))
  rw [set_ofF] at this
  have e:(fun j=>if j=0+(k:Int).toNat*1 then Value.int .u8 (atB at_ k) else if j<k then .int .u8 (atB at_ j) else .int .u8 0)=fun j=>if j<k+1 then Value.int .u8 (atB at_ j) else .int .u8 0:=by
   funext j
   by_cases h1:j=k
   ·subst h1
    rw [if_pos (by omega),if_pos (by omega)]
   ·rw [if_neg (by omega)]
    by_cases h2:j<k
    ·rw [if_pos h2,if_pos (by omega)]
    ·rw [if_neg h2,if_neg (by omega)]
  rw [e] at this
  have e5:(ofF 24 fun j=>if j<k then Value.int .u8 (atB at_ j) else .int .u8 0).setIfInBounds (0+(k:Int).toNat*1) (.int .u8 (IntKind.wrap .u8 (ishr .i64 at_ (56-8*(k:Int)))))=ofF 24 fun j=>if j<k+1 then Value.int .u8 (atB at_ j) else .int .u8 0:=by
   rw [set_ofF,← e];rfl
  rw [e5]
  exact this
 ·have hc:k=8:=by
   have:¬ (k:Int)<8:=by simpa using hc
   omega
  subst hc
  have o4:OwnL byLay w4 b2 285 (some ⟨b2,0,none⟩) 24 24 (atBs at_++List.replicate 16 0):=by
   refine OwnL.mk (xs:=atBs at_++List.replicate 16 0) (Nat.le_refl _) h4 (by simp [atBs,maxLen]) ?_
   rw [by_rows]
   rfl
  have hd4:=k4.has hd3 (by omega)
  have hc4:=k4.has hc3 (by omega)
  intro dd _
  refine Slc_from (lo:=8) (by omega) (by omega) ?_
  refine Slc_all (by omega) ?_
  have o4d:=o4.keep (Keep.drew (fun _=>False) w4 dd) (by simp)
  obtain ⟨w5,hr5,o5,k5⟩:=own_copy (a:=⟨b,0,none⟩) (ds:=secB d) (lo:=8) (n:=16) o4d (fun j x hx=>by
   rw [add_add',cell_of (hd4.dr dd),Nat.zero_add]
   have e:(secV d).toList=(secB d).map fun y=>Value.int .u8 y:=rfl
   rw [← Array.getElem?_toList,e,List.getElem?_map,hx];rfl) rfl (by decide) 16 16
  refine ⟨_,_,hr5,zA.2 ?_⟩
  have e24:(atBs at_++List.replicate 16 (0:Int)).take 8++secB d++(atBs at_++List.replicate 16 (0:Int)).drop (8+16)=atBs at_++secB d:=rfl
  rw [e24] at o5
  have hd5:=k5.has (hd4.dr dd) (by omega)
  have hc5:=k5.has (hc4.dr dd) (by omega)
  intro d2 _
  refine LdA_all (hd5.dr d2) rfl ?_
  refine Slc_all (by omega) ?_
  have o5d:=o5.keep (Keep.drew (fun _=>False) w5 d2) (by simp)
  refine CallS_of (V:=.int .u32 (sumS at_ d)) (s_Crc o5d.sl (by omega) ⟨rfl,rfl⟩) ?_
  refine zA.2 ?_
  refine DoQ_of (v:=.agg (celV ⟨d,sumS at_ d⟩)) (fun _=>run_build _ _ _ _ (by kernel_rfl)) ?_
  refine OpA_agg.2 ⟨rfl,?_⟩
  refine StA_all (hc5.dr d2) rfl (by kernel_rfl) (one_celV _) ?_
  refine LdA_all ((hc5.dr d2).upd_same _) rfl ?_
  refine Ret_nil.2 (hK _ ?_)
  have k35:Keep (fun k=>k=b2) w3 w5:=(k4.dr dd).trans (k5.mono fun k hk=>hk)
  refine ((k03.trans' k35 fun k hk e=>by omega).dr d2).upd (by omega) _
end calls
theorem made_rows (z:Array Value) (hz:0<z.size):∀ n:Nat,(madeCells z (n*z.size)).toList=(List.replicate n z.toList).flatten
 | 0=>by simp [madeCells]
 | n+1=>by
  have ih:=made_rows z hz n
  have e:∀ m,(madeCells z m).toList=(List.range m).map fun i=>z[i % z.size]! := by
   intro m
   unfold madeCells
   simp
  rw [e] at ih ⊢
  rw [Nat.succ_mul,List.range_add,List.map_append,ih,List.replicate_succ',List.flatten_append]
  congr 1
  rw [List.map_map]
  simp only [List.flatten_cons,List.flatten_nil,List.append_nil]
  apply List.ext_getElem
  ·simp
  ·intro i h1 h2
   have hi:i<z.size:=by simpa using h1
   simp only [List.getElem_map,List.getElem_range,Function.comp_apply]
   rw [Nat.mul_add_mod_self_right,Nat.mod_eq_of_lt hi]
   simp [hi]
theorem run_makeL {P:Program} {α:Type} {L:Lay α} {t e:TypeId} {i:TypeInfo} {z:Value} {x0:α} (w:World) (ht:P.underlying t=some (.slice e)) (hi:P.info? e=some i) (hz:i.zero=some z) (hx:z.cells.toList=L.row x0) (hs:i.size=L.size) (n:Nat) (h1:n*L.size≤16777216) (h2:(i.bytes:Int)*(n:Int)≤281474976710656) (h3:n≤maxLen) :
  ∃ w',(Instr.makeSlice t (.int .i64 (n:Int)) (.int .i64 (n:Int))).run P w=.ok (.slice (some ⟨w.heap.size,0,none⟩) n n) w'∧OwnL L w' w.heap.size e (some ⟨w.heap.size,0,none⟩) n n (List.replicate n x0)∧Keep (fun _=>False) w w'∧w'.heap.size=w.heap.size+1:=by
 have hr:=run_makeSlice (P:=P) w t e i z ht hi hz .i64 .i64 (n:Int) (n:Int) (by omega) (by omega) (by rw [Int.toNat_natCast,hs];exact h1) h2 (by simp only [maxLen] at h3;omega)
 rw [Int.toNat_natCast,hs] at hr
 refine ⟨_,hr,?_,Keep.new _ _ _,by simp⟩
 have hzs:z.cells.size=L.size:=by
  have:z.cells.toList.length=(L.row x0).length:=by rw [hx]
  rw [L.len] at this
  simpa using this
 have hlen:(List.replicate n x0).length=n:=by simp
 have:=OwnL.mk (L:=L) (w:=w.alloc (.cells (madeCells z.cells (n*L.size)) e)) (base:=w.heap.size) (e:=e) (xs:=List.replicate n x0) (b:=w.heap.size) (cs:=madeCells z.cells (n*L.size)) (Nat.le_refl _) (Has.new _ _) (by rw [hlen];exact h3) (by
  have hp:0<z.cells.size:=by rw [hzs];exact L.pos
  rw [← hzs,made_rows z.cells hp n,hx,L.rows_eq]
  simp)
 rw [hlen] at this
 exact this
structure Sct where
 cel:Cel
 good:Bool
def sctL (x:Sct):List Value:=celL x.cel++[.bool x.good]
theorem one_celL (c:Cel):∀ v∈celL c,oneV v=true:=fun v hv=>one_celV c v (by simpa [celV] using hv)
theorem one_sctL (x:Sct):∀ v∈sctL x,oneV v=true:=by
 intro v hv
 rcases List.mem_append.1 hv with h | h
 ·exact one_celL _ v h
 ·rw [List.mem_singleton.1 h];rfl
def cLay:Lay Cel:=⟨17,celL,fun _=>rfl,one_celL,by decide⟩
def kLay:Lay Sct:=⟨18,sctL,fun _=>rfl,one_sctL,by decide⟩
structure Dsk where
 secs:List Sct
 key:Int
 dead:Bool
def diskC (m r:Nat) (D:Dsk):Array Value:=#[.pointer (some ⟨m,0,none⟩),.slice (some ⟨r,0,none⟩) D.secs.length D.secs.length,.int .u32 D.key,.bool D.dead]
structure DiskAt (w:World) (m b r:Nat) (D:Dsk):Prop where
 cells:Has w b (.cells (diskC m r D) 220 (0,0))
 row:OwnL kLay w 0 260 (some ⟨r,0,none⟩) D.secs.length D.secs.length D.secs
theorem DiskAt.keep {w w':World} {m b r:Nat} {D:Dsk} {S:Nat→Prop} (h:DiskAt w m b r D) (k:Keep S w w') (h1:¬ S b) (h2:¬ S r):DiskAt w' m b r D :=
 ⟨k.has h.cells h1,h.row.keep k fun i hi=>by cases hi;exact h2⟩
theorem DiskAt.rcells {w:World} {m b r:Nat} {D:Dsk} (h:DiskAt w m b r D):∃ cs,Has w r (.cells cs 260 (0,0)):=by
 rcases Own.cases h.row with ⟨h0,_⟩ | ⟨b',cur,h0,_,hg,_⟩
 ·cases h0
 ·cases h0;exact ⟨_,hg⟩
theorem DiskAt.ne {w:World} {m b r:Nat} {D:Dsk} (h:DiskAt w m b r D):b≠r:=by
 obtain ⟨cs,hc⟩:=h.rcells
 exact h.cells.ne hc (by simp only [ne_eq,Obj.cells.injEq];intro e;exact absurd e.2.1 (by decide))
theorem DiskAt.nem {w:World} {m b r:Nat} {D:Dsk} {pw:Pow} (h:DiskAt w m b r D) (hm:MaAt w m pw):b≠m∧r≠m:=by
 obtain ⟨cs,hc⟩:=h.rcells
 have hm:Has w m _:=hm
 exact ⟨h.cells.ne hm (by simp only [ne_eq,Obj.cells.injEq];intro e;exact absurd e.2.1 (by decide)),hc.ne hm (by simp only [ne_eq,Obj.cells.injEq];intro e;exact absurd e.2.1 (by decide))⟩
def sct0:Sct:=⟨⟨sec [],0⟩,false⟩
def cel0:Cel:=⟨sec [],0⟩
theorem zc_cel:zc Tryz.prog 86=celV cel0:=by kernel_rfl
theorem bld_cel0 (w:World):(Instr.build 86 #[]).run Tryz.prog w=.ok (.agg (celV cel0)) w:=run_build _ _ _ _ (by kernel_rfl)
theorem OwnL.ldP {α:Type} {L:Lay α} {w:World} {base:Nat} {e:TypeId} {p:Option Addr} {l c:Nat} {xs:List α} (h:OwnL L w base e p l c xs) {i:Int} {x:α} {n m:Nat} (hn:L.size=n) (hm:m≤n) (h0:0≤i) (hi:xs[i.toNat]? = some x) {cs:Array Value} (hcs:cs.toList=(L.row x).take m) {K:Array Value→Prop} (hK:K cs) :
  IdxS p l i n fun b o=>LdA m b o (At w) K:=by
 subst hn
 obtain ⟨b,rfl,hc⟩:=h.at hi
 have hlt:=(List.getElem?_eq_some_iff.1 hi).1
 refine ⟨b,0,rfl,h0,by have:=h.length;omega,cs,?_,?_,hK⟩
 ·have:cs.toList.length=m:=by rw [hcs,List.length_take,L.len];omega
  simpa using this
 ·rintro w' ⟨d,rfl⟩ j hj
  rw [Nat.zero_add]
  have:=hc j (by omega)
  rw [show (w.dr d).cell? ⟨b,i.toNat*L.size+j,none⟩=w.cell? ⟨b,i.toNat*L.size+j,none⟩ from rfl,this,← Array.getElem?_toList,hcs,List.getElem?_take,if_pos hj]
section calls
variable {w:World} {m b r:Nat} {D:Dsk} {R:Value→World→Prop}
theorem d_New {n:Nat} (h1:1≤n) (h2:n≤1024) (hK:∀ b r w',DiskAt w' m b r ⟨List.replicate n sct0,0,false⟩→Keep (fun _=>False) w w'→w.heap.size≤b→w.heap.size≤r→R (.tuple #[.pointer (some ⟨b,0,none⟩),.int .i64 0]) w') :
  zB Tryz.prog 129 #[.int .i64 (n:Int),.pointer (some ⟨m,0,none⟩)] w R:=by
 apply C_disk_New
 unfold F_disk_New
 refine ⟨rfl,rfl,rfl,rfl,?_⟩
 rw [decide_eq_false (show ¬ (n:Int)<1 by omega),decide_eq_false (show ¬ (n:Int)>1024 by omega)]
 refine (Cb_false (p:=_)).2 ?_
 obtain ⟨w1,hr,o1,k1,z1⟩:=run_makeL (P:=Tryz.prog) (L:=kLay) (x0:=sct0) (t:=218) (e:=260) (i:=(Tryz.prog.info? 260).get (by kernel_rfl)) (z:=((Tryz.prog.info? 260).get (by kernel_rfl)).zero.get (by kernel_rfl)) w (by kernel_rfl) (by kernel_rfl) (by kernel_rfl) (by kernel_rfl) (by kernel_rfl) n
  (by show n*18≤_;omega) (by have:((Tryz.prog.info? 260).get (by kernel_rfl)).bytes=24:=by kernel_rfl
                             rw [this];omega) (by simp only [maxLen];omega)
 refine ⟨_,_,hr,zC.2 ?_⟩
 have hlen:(List.replicate n sct0).length=n:=by simp
 refine DoQ_of (v:=.agg (diskC m w.heap.size ⟨List.replicate n sct0,0,false⟩)) (fun d=>?_) (OpA_agg.2 ⟨rfl,?_⟩)
 ·have:∀ l:Nat,(Instr.build 220 #[(0,.pointer (some ⟨m,0,none⟩)),(1,.slice (some ⟨w.heap.size,0,none⟩) l l)]).run Tryz.prog (w1.dr d)=.ok (.agg #[.pointer (some ⟨m,0,none⟩),.slice (some ⟨w.heap.size,0,none⟩) l l,.int .u32 0,.bool false]) (w1.dr d):=fun l=>run_build _ _ _ _ (by kernel_rfl)
  rw [this]
  unfold diskC
  rw [hlen]
 refine alc_fresh fun w2 hb k2 z2=>?_
 refine Ret_nil.2 (hK w1.heap.size w.heap.size w2 ⟨hb,?_⟩ (k1.trans k2) (by omega) (Nat.le_refl _))
 rw [hlen]
 exact (o1.rebase (Nat.zero_le _)).keep k2 (by simp)
theorem d_On (h:DiskAt w m b r D) {m2:Nat} (hK:∀ w',DiskAt w' m2 b r D→Keep (fun k=>k=b) w w'→R (.pointer (some ⟨b,0,none⟩)) w'):zB Tryz.prog 130 #[.pointer (some ⟨b,0,none⟩),.pointer (some ⟨m2,0,none⟩)] w R:=by
 apply C_disk_Disk_On
 unfold F_disk_Disk_On
 refine StV_of h.cells (by show 0<4;decide) rfl ?_
 refine Ret_nil.2 (hK _ ⟨h.cells.upd_same _,?_⟩ (Keep.one _ _ _))
 exact h.row.keep (Keep.one w b _) fun k hk e=>by
  subst e
  injection hk with hk
  injection hk with hk
  exact h.ne hk.symm
theorem d_Size (h:DiskAt w m b r D) (hK:R (.int .i64 (D.secs.length:Int)) w):zB Tryz.prog 119 #[.pointer (some ⟨b,0,none⟩)] w R:=by
 apply C_disk_Disk_Size
 unfold F_disk_Disk_Size
 refine LdV_has (v:=.slice (some ⟨r,0,none⟩) D.secs.length D.secs.length) h.cells rfl ?_
 exact zC.2 (Ret_nil.2 hK)
theorem d_in (h:DiskAt w m b r D) {at_:Int} (hK:R (.bool (decide (0≤at_∧at_<(D.secs.length:Int)))) w):zB Tryz.prog 172 #[.pointer (some ⟨b,0,none⟩),.int .i64 at_] w R:=by
 apply C_disk_Disk_in
 unfold F_disk_Disk_in
 refine ⟨rfl,rfl,?_⟩
 refine Cb_of (fun hc=>?_) (fun hc=>?_)
 ·have hc:0≤at_:=by simpa using hc
  refine LdV_has (v:=.slice (some ⟨r,0,none⟩) D.secs.length D.secs.length) h.cells rfl ?_
  refine zC.2 (Ret_nil.2 ?_)
  have e:decide (at_<(D.secs.length:Int))=decide (0≤at_∧at_<(D.secs.length:Int)):=by simp [hc]
  rw [e];exact hK
 ·have hc:¬ 0≤at_:=by simpa using hc
  refine Ret_nil.2 ?_
  have e:false=decide (0≤at_∧at_<(D.secs.length:Int)):=by simp [hc]
  rw [e];exact hK
def readD (pw:Pow) (D:Dsk) (at_:Int):Cel×Int :=
 if ¬ (0≤at_∧at_<(D.secs.length:Int)) then (cel0,2)
 else if pw.on=false then (cel0,4)
 else if D.dead=true then (cel0,5)
 else if (D.secs.getD at_.toNat sct0).good=false then (cel0,7)
 else ((D.secs.getD at_.toNat sct0).cel,0)
theorem d_Read {pw:Pow} (h:DiskAt w m b r D) (hm:MaAt w m pw) {at_:Int} (hK:∀ w',Keep (fun _=>False) w w'→R (.tuple #[.agg (celV (readD pw D at_).1),.int .i64 (readD pw D at_).2]) w'):zB Tryz.prog 175 #[.pointer (some ⟨b,0,none⟩),.int .i64 at_] w R:=by
 apply C_disk_Disk_Read
 unfold F_disk_Disk_Read
 refine alc_fresh fun w1 hb1 k1 z1=>?_
 rw [zc_cel] at hb1
 have h1:=h.keep k1 (by simp) (by simp)
 have hm1:MaAt w1 m pw:=k1.has hm (by simp)
 have fin:∀ (c:Cel) (e:Int),readD pw D at_=(c,e)→StA 17 w.heap.size 0 (celV c) w1 fun w2=>LdA 17 w.heap.size 0 (At w2) fun cs=>Ret [] (R (.tuple #[.agg cs,.int .i64 e]) w2):=by
  intro c e he
  rw [he] at hK
  refine StA_all hb1 rfl rfl (one_celV _) ?_
  refine LdA_all (hb1.upd_same _) rfl ?_
  exact Ret_nil.2 (hK _ (k1.upd (by omega) _))
 have bad:∀ (e:Int),readD pw D at_=(cel0,e)→DoQ Tryz.prog (Instr.build 86 #[]) (At w1) fun v1=>OpA 17 v1 fun cs=>StA 17 w.heap.size 0 cs w1 fun w2=>LdA 17 w.heap.size 0 (At w2) fun cs1=>Ret [] (R (.tuple #[.agg cs1,.int .i64 e]) w2):=by
  intro e he
  refine DoQ_of (fun d=>bld_cel0 _) (OpA_agg.2 ⟨rfl,?_⟩)
  exact fin cel0 e he
 refine d_in h1 ?_
 refine OpB_bool.2 ?_
 refine Cb_of (fun hc=>?_) (fun hc=>?_)
 ·have hc:¬ (0≤at_∧at_<(D.secs.length:Int)):=by
   rw [Bool.not_eq_true',decide_eq_false_iff_not] at hc
   exact hc
  exact bad 2 (by unfold readD;rw [if_pos hc])
 have hin:0≤at_∧at_<(D.secs.length:Int):=by simpa using hc
 refine LdV_has (v:=.pointer (some ⟨m,0,none⟩)) h1.cells rfl (OpN_some.2 ?_)
 refine ma_On hm1 (OpB_bool.2 ?_)
 refine Cb_of (fun hc=>?_) (fun hc=>?_)
 ·have hc:pw.on=false:=by simpa using hc
  exact bad 4 (by unfold readD;rw [if_neg (by simpa using hin),if_pos hc])
 have hon:pw.on=true:=by simpa using hc
 refine LdV_has (v:=.bool D.dead) h1.cells rfl (OpB_bool.2 ?_)
 refine Cb_of (fun hc=>?_) (fun hc=>?_)
 ·exact bad 5 (by unfold readD;rw [if_neg (by simpa using hin),if_neg (by simp [hon]),if_pos hc])
 refine LdV_has (v:=.slice (some ⟨r,0,none⟩) D.secs.length D.secs.length) h1.cells rfl (zC.2 ?_)
 have hget:D.secs[at_.toNat]? = some (D.secs.getD at_.toNat sct0):=by
  have:=getD_at (xs:=D.secs) (i:=at_.toNat) (by omega) sct0
  rwa [Int.toNat_natCast] at this
 have hd:D.dead=false:=hc
 generalize hx:D.secs.getD at_.toNat sct0=x at hget
 refine h1.row.ldF (i:=at_) (n:=18) (t:=17) (x:=x) (v:=.bool x.good) rfl hin.1 hget rfl (OpB_bool.2 ?_)
 refine Cb_of (fun hg=>?_) (fun hg=>?_)
 ·have hg:x.good=false:=by simpa using hg
  exact bad 7 (by unfold readD;rw [if_neg (by simpa using hin),if_neg (by simp [hon]),if_neg (by simp [hd]),hx,if_pos hg])
 have hg:x.good=true:=by simpa using hg
 refine LdV_has (v:=.slice (some ⟨r,0,none⟩) D.secs.length D.secs.length) h1.cells rfl (zC.2 ?_)
 refine OwnL.ldP h1.row (i:=at_) (n:=18) (m:=17) (x:=x) (cs:=celV x.cel) rfl (by omega) hin.1 hget rfl ?_
 exact fin x.cel 0 (by unfold readD;rw [if_neg (by simpa using hin),if_neg (by simp [hon]),if_neg (by simp [hd]),hx,if_neg (by simp [hg])])
def writeD (pw:Pow) (D:Dsk) (at_:Int) (c:Cel) (ep:Int):(Int×Int)×Pow×Dsk :=
 if pw.on=false then ((0,4),pw,D)
 else if D.dead=true then ((0,5),pw,D)
 else if ep<D.key then ((0,6),pw,D)
 else if (stepP pw).1=false then ((0,4),(stepP pw).2,D)
 else ((1,0),(stepP pw).2,{ D with secs:=D.secs.set at_.toNat ⟨c,true⟩ })
theorem d_Write {pw:Pow} (h:DiskAt w m b r D) (hm:MaAt w m pw) {at_ ep:Int} {c:Cel} {cp:Option Addr} {cc:Nat} (hcl:SlL cLay w cp 1 [c]) (hat:0≤at_∧at_<(D.secs.length:Int))
  (hK:∀ w',DiskAt w' m b r (writeD pw D at_ c ep).2.2→MaAt w' m (writeD pw D at_ c ep).2.1→Keep (fun k=>k=m∨k=r) w w'→R (.tuple #[.int .i64 (writeD pw D at_ c ep).1.1,.int .i64 (writeD pw D at_ c ep).1.2]) w'):zB Tryz.prog 120 #[.pointer (some ⟨b,0,none⟩),.int .i64 at_,.slice cp 1 cc,.int .u32 ep] w R:=by
 apply C_disk_Disk_Write
 unfold F_disk_Disk_Write
 have hcap:=h.row.cap
 have hmax:D.secs.length≤9223372036854775807:=by have:=hcap.1;have:=hcap.2;simp only [maxLen] at this;omega
 refine ⟨rfl,rfl,?_⟩
 rw [decide_eq_false (show ¬ at_<0 by omega)]
 refine (Cb_false (p:=_)).2 ?_
 refine LdV_has (v:=.slice (some ⟨r,0,none⟩) D.secs.length D.secs.length) h.cells rfl (zC.2 ?_)
 rw [decide_eq_false (show ¬ at_>(D.secs.length:Int) by omega)]
 refine (Cb_false (p:=_)).2 ?_
 refine LdV_has (v:=.slice (some ⟨r,0,none⟩) D.secs.length D.secs.length) h.cells rfl (zC.2 ?_)
 have e1:IntKind.wrap .i64 ((D.secs.length:Int)-at_)=(D.secs.length:Int)-at_:=wrapI (by omega) (by omega)
 rw [e1,decide_eq_false (show ¬ (((1:Nat):Int)>(D.secs.length:Int)-at_) by omega)]
 refine (Cb_false (p:=_)).2 ?_
 unfold writeD at hK
 refine LdV_has (v:=.pointer (some ⟨m,0,none⟩)) h.cells rfl (OpN_some.2 ?_)
 refine ma_On hm (OpB_bool.2 ?_)
 refine Cb_of (fun hc=>?_) (fun hc=>?_)
 ·have hc:pw.on=false:=by simpa using hc
  rw [if_pos hc] at hK
  exact Ret_nil.2 (hK w h hm (Keep.refl _ _))
 have hon:pw.on=true:=by simpa using hc
 rw [if_neg (by simp [hon])] at hK
 refine LdV_has (v:=.bool D.dead) h.cells rfl (OpB_bool.2 ?_)
 refine Cb_of (fun hd=>?_) (fun hd=>?_)
 ·rw [if_pos hd] at hK
  exact Ret_nil.2 (hK w h hm (Keep.refl _ _))
 have hd:D.dead=false:=hd
 rw [if_neg (by simp [hd])] at hK
 refine LdV_has (v:=.int .u32 D.key) h.cells rfl (zA.2 ?_)
 refine Cb_of (fun hk=>?_) (fun hk=>?_)
 ·have hk:ep<D.key:=by simpa using hk
  rw [if_pos hk] at hK
  exact Ret_nil.2 (hK w h hm (Keep.refl _ _))
 have hk:¬ ep<D.key:=by simpa using hk
 rw [if_neg hk] at hK
 have hne:=h.ne
 obtain ⟨hbm,hrm⟩:=h.nem hm
 refine LoopC_of (σ:=Int×Unit) (fun st w'=>(st.1=0∧w'=w)∨(st.1=1∧((stepP pw).1=true∧DiskAt w' m b r { D with secs:=D.secs.set at_.toNat ⟨c,true⟩ }∧MaAt w' m (stepP pw).2∧Keep (fun k=>k=m∨k=r) w w'))) (fun st _=>(1-st.1).toNat) (Or.inl ⟨rfl,rfl⟩) ?_
 rintro _ ⟨i,u⟩ w1 hI
 simp only at hI ⊢
 rcases hI with ⟨hi,hw⟩ | ⟨hi,hst,hd1,hm1,k1⟩
 ·subst hi
  rw [hw]
  clear hw
  refine (Cb_true (q:=_)).2 ?_
  refine hcl.ldA (i:=0) (n:=17) (x:=c) rfl (by omega) rfl ?_
  refine copy_of (by rw [zc_cel];rfl) rfl (one_celV c) fun w2 hb2 k2 z2=>?_
  have h2:=h.keep k2 (by simp) (by simp)
  have hm2:MaAt w2 m pw:=k2.has hm (by simp)
  refine LdV_has (v:=.pointer (some ⟨m,0,none⟩)) h2.cells rfl (OpN_some.2 ?_)
  refine ma_Step hm2 fun w3 hm3 k3 z3=>?_
  refine OpB_bool.2 ?_
  have h3:=h2.keep k3 hbm hrm
  have hwm:w.heap.size≠m:=by have:=(show Has w m _ from hm).lt;omega
  have hb3:=k3.has hb2 hwm
  have k03:Keep (fun k=>k=m∨k=r) w w3:=(k2.mono fun _ h=>h.elim).trans (k3.mono fun _ h=>Or.inl h)
  refine Cb_of (fun hst=>?_) (fun hst=>?_)
  ·have hst:(stepP pw).1=false:=by simpa using hst
   rw [if_pos hst] at hK
   exact Ret_nil.2 (hK w3 h3 hm3 k03)
  ·have hst:(stepP pw).1=true:=by simpa using hst
   intro dd _
   have kd:=Keep.drew (fun _=>False) w3 dd
   have h4:=h3.keep kd (by simp) (by simp)
   refine LdV_has (v:=.slice (some ⟨r,0,none⟩) D.secs.length D.secs.length) h4.cells rfl (zC.2 ?_)
   refine LdA_all (hb3.dr dd) rfl ?_
   refine DoQ_of (v:=.agg (sctL ⟨c,true⟩).toArray) (fun _=>run_build _ _ _ _ (by kernel_rfl)) ?_
   refine OpA_agg.2 ⟨rfl,?_⟩
   have e2:IntKind.wrap .i64 (at_+0)=at_:=by rw [Int.add_zero,wrapI (by omega) (by omega)]
   rw [e2]
   refine h4.row.stA (i:=at_) (n:=18) rfl hat.1 hat.2 ⟨c,true⟩ rfl fun w5 o5 k5 z5=>?_
   have k5':Keep (fun k=>k=r) (w3.dr dd) w5:=k5.mono fun k e=>by
    injection e with e
    injection e with e
    exact e.symm
   refine ⟨_,by show (1-IntKind.wrap .i64 (0+1)).toNat<_;decide +kernel,Or.inr ⟨by show IntKind.wrap .i64 (0+1)=1;decide +kernel,hst,⟨?_,?_⟩,k5'.has (hm3.dr dd) (fun e=>hrm e.symm),(k03.dr dd).trans (k5'.mono fun _ h=>Or.inr h)⟩,rfl⟩
   ·have:=k5'.has h4.cells hne
    have e3:diskC m r D=diskC m r { D with secs:=D.secs.set at_.toNat ⟨c,true⟩ }:=by unfold diskC;simp
    rw [e3] at this
    exact this
   ·have el:(D.secs.set at_.toNat ⟨c,true⟩).length=D.secs.length:=by simp
    show OwnL kLay w5 0 _ _ (D.secs.set at_.toNat ⟨c,true⟩).length (D.secs.set at_.toNat ⟨c,true⟩).length _
    rw [el]
    exact o5
 ·subst hi
  refine (Cb_false (p:=_)).2 ?_
  rw [if_neg (by rw [hst];simp)] at hK
  exact Ret_nil.2 (hK w1 hd1 hm1 k1)
end calls
structure Geo where
 d:Int
 c:Int
 s:Int
def geoV (g:Geo):Array Value:=#[.int .i64 g.d,.int .i64 g.c,.int .i64 g.s]
structure GeoOk (g:Geo):Prop where
 d:4≤g.d∧g.d≤32
 c:1≤g.c∧g.c≤8
 s:1≤g.s∧g.s≤64
theorem GeoOk.size {g:Geo} (h:GeoOk g):1≤g.c*g.s∧g.c*g.s≤512:=by
 obtain ⟨_,⟨h1,h2⟩,⟨h3,h4⟩⟩:=h
 constructor
 ·have:=Int.mul_le_mul h1 h3 (by omega) (by omega);omega
 ·have:=Int.mul_le_mul h2 h4 (by omega) (by omega);omega
structure Plc where
 dk:Int
 at_:Int
def plcL (x:Plc):List Value:=[.int .i64 x.dk,.int .i64 x.at_]
def plcV (x:Plc):Array Value:=#[.int .i64 x.dk,.int .i64 x.at_]
def plLay:Lay Plc:=⟨2,plcL,fun _=>rfl,fun y v hv=>by
 simp only [plcL,List.mem_cons,List.not_mem_nil,or_false] at hv
 rcases hv with rfl | rfl <;> rfl,by decide⟩
section calls
variable {w:World} {g:Geo} {R:Value→World→Prop}
theorem one_geoV (g:Geo):∀ v∈(geoV g).toList,oneV v=true:=by
 intro v hv
 have hv:v∈[Value.int .i64 g.d,.int .i64 g.c,.int .i64 g.s]:=hv
 simp only [List.mem_cons,List.not_mem_nil,or_false] at hv
 rcases hv with rfl | rfl | rfl <;> rfl
theorem l_Check (h:GeoOk g) (hK:∀ w',Keep (fun _=>False) w w'→R (.int .i64 0) w'):zB Tryz.prog 71 #[.agg (geoV g)] w R:=by
 apply C_layout_Check
 unfold F_layout_Check
 refine alc_fresh fun w1 hb k1 z1=>?_
 obtain ⟨⟨d1,d2⟩,⟨c1,c2⟩,⟨s1,s2⟩⟩:=h
 refine LdV_has (v:=.int .i64 g.d) hb rfl (zA.2 ?_)
 rw [decide_eq_false (show ¬ g.d<4 by omega)]
 refine (Cb_false (p:=_)).2 ?_
 refine LdV_has (v:=.int .i64 g.d) hb rfl (zA.2 ?_)
 rw [decide_eq_false (show ¬ g.d>32 by omega)]
 refine (Cb_false (p:=_)).2 ?_
 refine LdV_has (v:=.int .i64 g.c) hb rfl (zA.2 ?_)
 rw [decide_eq_false (show ¬ g.c<1 by omega)]
 refine (Cb_false (p:=_)).2 ?_
 refine LdV_has (v:=.int .i64 g.c) hb rfl (zA.2 ?_)
 rw [decide_eq_false (show ¬ g.c>8 by omega)]
 refine (Cb_false (p:=_)).2 ?_
 refine LdV_has (v:=.int .i64 g.s) hb rfl (zA.2 ?_)
 rw [decide_eq_false (show ¬ g.s<1 by omega)]
 refine (Cb_false (p:=_)).2 ?_
 refine LdV_has (v:=.int .i64 g.s) hb rfl (zA.2 ?_)
 rw [decide_eq_false (show ¬ g.s>64 by omega)]
 exact (Cb_false (p:=_)).2 (Ret_nil.2 (hK w1 k1))
theorem l_Size (h:GeoOk g) (hK:∀ w',Keep (fun _=>False) w w'→R (.tuple #[.int .i64 (g.c*g.s),.int .i64 0]) w'):zB Tryz.prog 128 #[.agg (geoV g)] w R:=by
 apply C_layout_Size
 unfold F_layout_Size
 have hs:=h.size
 refine alc_fresh fun w1 hb k1 z1=>?_
 refine LdA_all hb rfl ?_
 refine l_Check h fun w2 k2=>?_
 refine zA.2 ((Cb_false (p:=_)).2 ?_)
 have hb2:=k2.has hb (by simp)
 refine LdV_has (v:=.int .i64 g.c) hb2 rfl (zA.2 ?_)
 refine LdV_has (v:=.int .i64 g.s) hb2 rfl (zA.2 ?_)
 rw [wrapI (by omega) (by omega)]
 exact Ret_nil.2 (hK w2 (k1.trans k2))
end calls
def firstP (g:Geo) (st:Int):Int:=(2*g.d+1-st % g.d) % g.d
def plcP (g:Geo) (st off k:Int):Plc:=⟨(firstP g st+k) % g.d,st*g.c+off⟩
theorem GeoOk.cap {g:Geo} (h:GeoOk g):2≤(g.d-2)*g.c*g.s∧(g.d-2)*g.c*g.s≤15360:=by
 obtain ⟨⟨d1,d2⟩,⟨c1,c2⟩,⟨s1,s2⟩⟩:=h
 have h1:=Int.mul_le_mul (show (2:Int)≤g.d-2 by omega) c1 (by omega) (by omega)
 have h2:=Int.mul_le_mul (show g.d-2≤(30:Int) by omega) c2 (by omega) (by omega)
 have h3:=Int.mul_le_mul h1 s1 (by omega) (by omega)
 have h4:=Int.mul_le_mul h2 s2 (by omega) (by omega)
 omega
theorem GeoOk.row {g:Geo} (h:GeoOk g) {st off:Int} (hs:0≤st∧st<g.s) (ho:0≤off∧off<g.c):0≤st*g.c∧0≤st*g.c+off∧st*g.c+off<g.c*g.s:=by
 have h1:=Int.mul_nonneg hs.1 (show (0:Int)≤g.c by have:=h.c;omega)
 have h2:=Int.mul_le_mul_of_nonneg_right (show st≤g.s-1 by omega) (show (0:Int)≤g.c by have:=h.c;omega)
 have h3:(g.s-1)*g.c=g.c*g.s-g.c:=by rw [Int.sub_mul,Int.mul_comm g.s];omega
 omega
section calls
variable {w:World} {g:Geo} {R:Value→World→Prop}
theorem l_Cap (h:GeoOk g) (hK:∀ w',Keep (fun _=>False) w w'→R (.tuple #[.int .i64 ((g.d-2)*g.c*g.s),.int .i64 0]) w'):zB Tryz.prog 140 #[.agg (geoV g)] w R:=by
 apply C_layout_Capacity
 unfold F_layout_Capacity
 have hcap:=h.cap
 obtain ⟨⟨d1,d2⟩,⟨c1,c2⟩,⟨s1,s2⟩⟩:=h
 have h1:=Int.mul_le_mul (show g.d-2≤(30:Int) by omega) c2 (by omega) (by omega)
 have h0:=Int.mul_nonneg (show (0:Int)≤g.d-2 by omega) (show (0:Int)≤g.c by omega)
 refine alc_fresh fun w1 hb k1 z1=>?_
 refine LdA_all hb rfl ?_
 refine l_Check ⟨⟨d1,d2⟩,⟨c1,c2⟩,⟨s1,s2⟩⟩ fun w2 k2=>?_
 refine zA.2 ((Cb_false (p:=_)).2 ?_)
 have hb2:=k2.has hb (by simp)
 refine LdV_has (v:=.int .i64 g.d) hb2 rfl (zA.2 ?_)
 refine LdV_has (v:=.int .i64 g.c) hb2 rfl (zA.2 ?_)
 refine LdV_has (v:=.int .i64 g.s) hb2 rfl (zA.2 ?_)
 rw [wrapI (x:=g.d-2) (by omega) (by omega),wrapI (x:=(g.d-2)*g.c) (by omega) (by omega),wrapI (by omega) (by omega)]
 exact Ret_nil.2 (hK w2 (k1.trans k2))
theorem l_first (h:GeoOk g) {st:Int} (hst:0≤st) (hK:∀ w',Keep (fun _=>False) w w'→R (.int .i64 (firstP g st)) w'):zB Tryz.prog 174 #[.agg (geoV g),.int .i64 st] w R:=by
 apply C_layout_first
 unfold F_layout_first
 obtain ⟨⟨d1,d2⟩,_,_⟩:=h
 refine alc_fresh fun w1 hb k1 z1=>?_
 refine LdV_has (v:=.int .i64 g.d) hb rfl (zA.2 ?_)
 refine LdV_has (v:=.int .i64 g.d) hb rfl (zA.2 ⟨by omega,?_⟩)
 refine LdV_has (v:=.int .i64 g.d) hb rfl (zA.2 ⟨by omega,fun d=>?_⟩)
 refine Ret_nil.2 ?_
 have hm1:=Int.emod_nonneg st (show g.d≠0 by omega)
 have hm2:=Int.emod_lt_of_pos st (show 0<g.d by omega)
 rw [Int.tmod_eq_emod_of_nonneg hst,wrapI (x:=2*g.d) (by omega) (by omega),wrapI (x:=2*g.d+1) (by omega) (by omega),wrapI (x:=2*g.d+1-st % g.d) (by omega) (by omega),Int.tmod_eq_emod_of_nonneg (by omega)]
 exact hK _ (k1.dr d)
theorem firstP_lt (h:GeoOk g) (st:Int):0≤firstP g st∧firstP g st<g.d:=by
 obtain ⟨⟨d1,d2⟩,_,_⟩:=h
 exact ⟨Int.emod_nonneg _ (by omega),Int.emod_lt_of_pos _ (by omega)⟩
def spotP (g:Geo) (lba:Int):Int×Int×Int:=(lba / ((g.d-2)*g.c),lba / g.c % (g.d-2),lba % g.c)
def spotV (x:Int×Int×Int):Array Value:=#[.int .i64 x.1,.int .i64 x.2.1,.int .i64 x.2.2]
theorem one_spotV (x:Int×Int×Int):∀ v∈(spotV x).toList,oneV v=true:=by
 intro v hv
 have hv:v∈[Value.int .i64 x.1,.int .i64 x.2.1,.int .i64 x.2.2]:=hv
 simp only [List.mem_cons,List.not_mem_nil,or_false] at hv
 rcases hv with rfl | rfl | rfl <;> rfl
theorem one_plcV (x:Plc):∀ v∈(plcV x).toList,oneV v=true:=by
 intro v hv
 have hv:v∈[Value.int .i64 x.dk,.int .i64 x.at_]:=hv
 simp only [List.mem_cons,List.not_mem_nil,or_false] at hv
 rcases hv with rfl | rfl <;> rfl
theorem spotP_ok (h:GeoOk g) {lba:Int} (h0:0≤lba) (h1:lba<(g.d-2)*g.c*g.s):(0≤(spotP g lba).1∧(spotP g lba).1<g.s)∧(0≤(spotP g lba).2.1∧(spotP g lba).2.1<g.d-2)∧(0≤(spotP g lba).2.2∧(spotP g lba).2.2<g.c):=by
 obtain ⟨⟨d1,d2⟩,⟨c1,c2⟩,⟨s1,s2⟩⟩:=h
 have hp:0<(g.d-2)*g.c:=Int.mul_pos (by omega) (by omega)
 refine ⟨⟨Int.ediv_nonneg h0 (by omega),?_⟩,⟨Int.emod_nonneg _ (by omega),Int.emod_lt_of_pos _ (by omega)⟩,⟨Int.emod_nonneg _ (by omega),Int.emod_lt_of_pos _ (by omega)⟩⟩
 exact Int.ediv_lt_of_lt_mul hp (by rw [Int.mul_comm g.s];exact h1)
theorem l_Map (h:GeoOk g) {lba:Int} (h0:0≤lba) (h1:lba<(g.d-2)*g.c*g.s) (hK:∀ w',Keep (fun _=>False) w w'→R (.tuple #[.agg (spotV (spotP g lba)),.agg (plcV (plcP g (spotP g lba).1 (spotP g lba).2.2 (spotP g lba).2.1)),.int .i64 0]) w') :
  zB Tryz.prog 105 #[.agg (geoV g),.int .i64 lba] w R:=by
 apply C_layout_Map
 unfold F_layout_Map
 have hcap:=h.cap
 obtain ⟨⟨p1,p2⟩,⟨p3,p4⟩,⟨p5,p6⟩⟩:=spotP_ok h h0 h1
 have hrow:=h.row ⟨p1,p2⟩ ⟨p5,p6⟩
 have hsz:=h.size
 have hh:=h
 obtain ⟨⟨d1,d2⟩,⟨c1,c2⟩,⟨s1,s2⟩⟩:=h
 have hm1:=Int.mul_le_mul (show g.d-2≤(30:Int) by omega) c2 (by omega) (by omega)
 have hm0:0<(g.d-2)*g.c:=Int.mul_pos (by omega) (by omega)
 refine alc_fresh fun w1 hb1 k1 z1=>?_
 refine alc_fresh fun w2 hb2 k2 z2=>?_
 refine alc_fresh fun w3 hb3 k3 z3=>?_
 have k23:=k2.trans k3
 have hg3:=k23.has hb1 (by simp)
 refine LdA_all hg3 rfl ?_
 refine l_Cap hh fun w4 k4=>?_
 refine T2_mk.2 (zA.2 (zA.2 ((Cb_false (p:=_)).2 ⟨rfl,rfl,rfl,?_⟩)))
 rw [decide_eq_false (show ¬ lba<0 by omega),decide_eq_false (show ¬ lba≥(g.d-2)*g.c*g.s by omega)]
 refine (Cb_false (p:=_)).2 ?_
 have hg4:=k4.has hg3 (by simp)
 have hs4:=k4.has (k3.has hb2 (by simp)) (by simp)
 have hp4:=k4.has hb3 (by simp)
 have k04:=((k1.trans k23).trans k4)
 have hl1:w1.heap.size=w.heap.size+1:=z1
 have hl2:w2.heap.size=w1.heap.size+1:=z2
 generalize hb0:w.heap.size=b at *
 generalize w1.heap.size=bs at *
 generalize w2.heap.size=bp at *
 refine LdV_has (v:=.int .i64 g.d) hg4 rfl (zA.2 ?_)
 have e2:IntKind.wrap .i64 (g.d-2)=g.d-2:=wrapI (by omega) (by omega)
 have e3:IntKind.wrap .i64 ((g.d-2)*g.c)=(g.d-2)*g.c:=wrapI (by omega) (by omega)
 intro dd
 refine ⟨fun w'=>Has w' b (.cells (geoV g) 24 (0,0)),hg4.dr dd,?_⟩
 refine LdV_of (v:=.int .i64 g.c) (fun w' hw=>⟨_,_,_,hw,rfl⟩) (zA.2 ?_)
 rw [e2,e3]
 refine ⟨by omega,?_⟩
 refine LdV_of (v:=.int .i64 g.c) (fun w' hw=>⟨_,_,_,hw,rfl⟩) (zA.2 ⟨by omega,by omega,?_⟩)
 refine LdV_of (v:=.int .i64 g.c) (fun w' hw=>⟨_,_,_,hw,rfl⟩) (zA.2 ⟨by omega,?_⟩)
 have q1:IntKind.wrap .i64 (Int.tdiv lba ((g.d-2)*g.c))=(spotP g lba).1:=by
  rw [Int.tdiv_eq_ediv_of_nonneg h0]
  exact wrapI (by have:=p1;show _≤lba / ((g.d-2)*g.c);change 0≤lba / ((g.d-2)*g.c) at p1;omega) (by change lba / ((g.d-2)*g.c)<g.s at p2;omega)
 have q2:Int.tmod (IntKind.wrap .i64 (Int.tdiv lba g.c)) (g.d-2)=(spotP g lba).2.1:=by
  have a1:=Int.ediv_nonneg h0 (show 0≤g.c by omega)
  have a2:=Int.ediv_le_self g.c h0
  rw [Int.tdiv_eq_ediv_of_nonneg h0,wrapI (by omega) (by omega),Int.tmod_eq_emod_of_nonneg a1]
  rfl
 have q3:Int.tmod lba g.c=(spotP g lba).2.2:=by rw [Int.tmod_eq_emod_of_nonneg h0];rfl
 rw [q1,q2,q3]
 generalize hsp:spotP g lba=x at *
 refine ⟨.agg (spotV x),fun w' _=>run_build _ _ _ _ (by kernel_rfl),OpA_agg.2 ⟨rfl,?_⟩⟩
 refine alc_fresh fun w5 hb5 k5 z5=>?_
 have kd:=Keep.drew (fun _=>False) w4 dd
 have hg5:=(kd.trans k5).has hg4 (by simp)
 have hs5:=(kd.trans k5).has hs4 (by simp)
 have hp5:=(kd.trans k5).has hp4 (by simp)
 have k05:=(k04.trans kd).trans k5
 refine ⟨hg5,?_⟩
 have hlt:=hp4.lt
 show StA 3 (w4.dr dd).heap.size 0 (spotV x) w5 _
 have hlt4:bp<(w4.dr dd).heap.size:=hlt
 generalize (w4.dr dd).heap.size=bx at *
 refine StA_all hb5 rfl (by kernel_rfl) (one_spotV x) ?_
 have hx6:=hb5.upd_same (.cells (spotV x) 177 (0,0))
 have hg6:=Has.upd (y:=.cells (spotV x) 177 (0,0)) hg5 (show b≠bx by omega)
 have hs6:=Has.upd (y:=.cells (spotV x) 177 (0,0)) hs5 (show bs≠bx by omega)
 have hp6:=Has.upd (y:=.cells (spotV x) 177 (0,0)) hp5 (show bp≠bx by omega)
 have hwb:w.heap.size≤w4.heap.size:=k04.size
 refine ⟨hg6,?_⟩
 have k06:Keep (fun k=>k=b∨k=bs∨k=bp∨k=bx) w (w5.upd bx (.cells (spotV x) 177 (0,0))):=(k05.mono fun _ h=>h.elim).upd (fun _=>Or.inr (Or.inr (Or.inr rfl))) _
 generalize w5.upd bx (.cells (spotV x) 177 (0,0))=w6 at *
 intro d2
 refine ⟨fun w'=>Has w' b (.cells (geoV g) 24 (0,0))∧Has w' bx (.cells (spotV x) 177 (0,0)),⟨hg6.dr d2,hx6.dr d2⟩,?_⟩
 refine LdA_of (cs:=spotV x) rfl (fun w' hw=>⟨_,_,_,hw.2,Nat.le_refl 3,rfl⟩) ?_
 refine LdA_of (cs:=geoV g) rfl (fun w' hw=>⟨_,_,_,hw.1,Nat.le_refl 3,rfl⟩) ?_
 refine LdV_of (v:=.int .i64 x.1) (fun w' hw=>⟨_,_,_,hw.2,rfl⟩) (zA.2 ?_)
 refine LdV_of (v:=.int .i64 x.2.1) (fun w' hw=>⟨_,_,_,hw.2,rfl⟩) (zA.2 ?_)
 refine LdV_of (v:=.int .i64 g.d) (fun w' hw=>⟨_,_,_,hw.1,rfl⟩) (zA.2 ?_)
 refine LdV_of (v:=.int .i64 x.1) (fun w' hw=>⟨_,_,_,hw.2,rfl⟩) (zA.2 ?_)
 refine LdV_of (v:=.int .i64 g.c) (fun w' hw=>⟨_,_,_,hw.1,rfl⟩) (zA.2 ?_)
 refine LdV_of (v:=.int .i64 x.2.2) (fun w' hw=>⟨_,_,_,hw.2,rfl⟩) (zA.2 ?_)
 refine l_first hh p1 fun w7 k7=>?_
 have hx7:=k7.has (hx6.dr d2) (by simp)
 have hg7:=k7.has (hg6.dr d2) (by simp)
 have hs7:=k7.has (hs6.dr d2) (by simp)
 have hp7:=k7.has (hp6.dr d2) (by simp)
 refine zA.2 ⟨⟨hg7,hx7⟩,by omega,?_⟩
 have hf:=firstP_lt hh x.1
 have r1:Int.tmod (IntKind.wrap .i64 (firstP g x.1+x.2.1)) g.d=(firstP g x.1+x.2.1) % g.d:=by rw [wrapI (by omega) (by omega),Int.tmod_eq_emod_of_nonneg (by omega)]
 have r2:IntKind.wrap .i64 ((IntKind.wrap .i64 (x.1*g.c))+x.2.2)=x.1*g.c+x.2.2:=by rw [wrapI (x:=x.1*g.c) (by omega) (by omega),wrapI (by omega) (by omega)]
 rw [r1,r2]
 refine ⟨.agg (plcV (plcP g x.1 x.2.2 x.2.1)),fun w' _=>run_build _ _ _ _ (by kernel_rfl),OpA_agg.2 ⟨rfl,?_⟩⟩
 refine StA_all hs7 rfl (by kernel_rfl) (one_spotV x) ?_
 have hg8:=Has.upd (y:=.cells (spotV x) 177 (0,0)) hg7 (show b≠bs by omega)
 have hx8:=Has.upd (y:=.cells (spotV x) 177 (0,0)) hx7 (show bx≠bs by omega)
 have hp8:=Has.upd (y:=.cells (spotV x) 177 (0,0)) hp7 (show bp≠bs by omega)
 have hs8:=hs7.upd_same (.cells (spotV x) 177 (0,0))
 refine ⟨⟨hg8,hx8⟩,?_⟩
 have k08:Keep (fun k=>k=b∨k=bs∨k=bp∨k=bx) w (w7.upd bs (.cells (spotV x) 177 (0,0))):=((k06.dr d2).trans (k7.mono fun _ h=>h.elim)).upd (fun _=>Or.inr (Or.inl rfl)) _
 generalize w7.upd bs (.cells (spotV x) 177 (0,0))=w8 at *
 refine StA_all hp8 rfl (by kernel_rfl) (one_plcV _) ?_
 have hg9:=Has.upd (y:=.cells (plcV (plcP g x.1 x.2.2 x.2.1)) 84 (0,0)) hg8 (show b≠bp by omega)
 have hx9:=Has.upd (y:=.cells (plcV (plcP g x.1 x.2.2 x.2.1)) 84 (0,0)) hx8 (show bx≠bp by omega)
 have hs9:=Has.upd (y:=.cells (plcV (plcP g x.1 x.2.2 x.2.1)) 84 (0,0)) hs8 (show bs≠bp by omega)
 refine ⟨⟨hg9,hx9⟩,?_⟩
 refine LdA_all hs9 rfl ?_
 refine LdA_all (hp8.upd_same _) rfl ?_
 refine Ret_nil.2 (hK _ ?_)
 have k09:=k08.upd (k:=bp) (fun _=>Or.inr (Or.inr (Or.inl rfl))) (.cells (plcV (plcP g x.1 x.2.2 x.2.1)) 84 (0,0))
 exact (Keep.refl (fun _=>False) w).trans' k09 fun i hi hh=>by rw [hb0] at hi;omega
theorem plLayT:LayT Tryz.prog plLay 184 84 16:=⟨by kernel_rfl,⟨(Tryz.prog.info? 84).get (by kernel_rfl),((Tryz.prog.info? 84).get (by kernel_rfl)).zero.get (by kernel_rfl),by kernel_rfl,by kernel_rfl,by kernel_rfl,by kernel_rfl,by kernel_rfl⟩⟩
theorem bsl_pl1 (x:Plc) (w:World):(Instr.buildSlice 184 1 #[(0,.agg (plcV x))]).run Tryz.prog w=.ok (.slice (some ⟨w.heap.size,0,none⟩) 1 1) (w.alloc (.cells (plcV x) 84)) :=
 run_buildSlice w 184 84 1 _ (plcV x) ((Tryz.prog.info? 84).get (by kernel_rfl)) (((Tryz.prog.info? 84).get (by kernel_rfl)).zero.get (by kernel_rfl)) (by kernel_rfl) (by kernel_rfl) (by kernel_rfl) (by decide +kernel) (by decide +kernel) (by kernel_rfl)
def rowP (g:Geo) (st off:Int) (n:Nat):List Plc:=(List.range n).map fun (k:Nat)=>plcP g st off (k:Int)
theorem rowP_succ (g:Geo) (st off:Int) (n:Nat):rowP g st off (n+1)=rowP g st off n++[plcP g st off (n:Int)]:=by unfold rowP;rw [List.range_succ,List.map_append];rfl
theorem l_Row (h:GeoOk g) {st off:Int} (hst:0≤st∧st<g.s) (hof:0≤off∧off<g.c) (hK:∀ p c w',OwnL plLay w' w.heap.size 84 p g.d.toNat c (rowP g st off g.d.toNat)→Keep (fun _=>False) w w'→R (.tuple #[.slice p g.d.toNat c,.int .i64 0]) w') :
  zB Tryz.prog 109 #[.agg (geoV g),.int .i64 st,.int .i64 off] w R:=by
 apply C_layout_Row
 unfold F_layout_Row
 have hrow:=h.row hst hof
 have hsz:=h.size
 have hh:=h
 obtain ⟨⟨d1,d2⟩,⟨c1,c2⟩,⟨s1,s2⟩⟩:=h
 refine alc_fresh fun w1 hb1 k1 z1=>?_
 refine LdA_all hb1 rfl ?_
 refine l_Check hh fun w2 k2=>?_
 refine zA.2 ((Cb_false (p:=_)).2 ?_)
 rw [decide_eq_false (show ¬ st<0 by omega)]
 refine (Cb_false (p:=_)).2 ?_
 have hb2:=k2.has hb1 (by simp)
 refine LdV_has (v:=.int .i64 g.s) hb2 rfl (zA.2 ⟨rfl,rfl,?_⟩)
 rw [decide_eq_false (show ¬ st≥g.s by omega),decide_eq_false (show ¬ off<0 by omega)]
 refine (Cb_false (p:=_)).2 ?_
 refine LdV_has (v:=.int .i64 g.c) hb2 rfl (zA.2 ?_)
 rw [decide_eq_false (show ¬ off≥g.c by omega)]
 refine (Cb_false (p:=_)).2 ?_
 refine LdV_has (v:=.int .i64 g.d) hb2 rfl (zA.2 ?_)
 have k02:=k1.trans k2
 generalize hq:w.heap.size=b at *
 refine LoopC_of (σ:=(Option Addr×Nat×Nat)×Int×Unit) (fun s w'=>∃ k:Nat,s.2.1=(k:Int)∧(k:Int)≤g.d∧s.1.2.1=k∧OwnL plLay w' (b+1) 84 s.1.1 k s.1.2.2 (rowP g st off k)∧Has w' b (.cells (geoV g) 24 (0,0))∧Keep (fun _=>False) w w'∧b+1≤w'.heap.size) (fun s _=>(g.d-s.2.1).toNat)
  ⟨0,rfl,by omega,rfl,OwnL.nil,hb2,k02,hb2.lt⟩ ?_
 rintro _ ⟨⟨p,l,c⟩,i,u⟩ w3 ⟨k,hi,hk,hl,o3,hb3,k3,z3⟩
 simp only at hi hl o3 ⊢
 subst hi hl
 refine Cb_of (fun hc=>?_) (fun hc=>?_)
 ·have hc:(l:Int)<g.d:=by simpa using hc
  intro dd
  refine ⟨fun w'=>Has w' b (.cells (geoV g) 24 (0,0)),hb3.dr dd,?_⟩
  refine LdA_of (cs:=geoV g) rfl (fun w' hw=>⟨_,_,_,hw,Nat.le_refl 3,rfl⟩) ?_
  refine LdV_of (v:=.int .i64 g.d) (fun w' hw=>⟨_,_,_,hw,rfl⟩) (zA.2 ?_)
  refine LdV_of (v:=.int .i64 g.c) (fun w' hw=>⟨_,_,_,hw,rfl⟩) (zA.2 ?_)
  refine l_first hh hst.1 fun w4 k4=>?_
  have hb4:=k4.has (hb3.dr dd) (by simp)
  refine zA.2 ⟨hb4,by omega,?_⟩
  have hf:=firstP_lt hh st
  have r1:Int.tmod (IntKind.wrap .i64 (firstP g st+(l:Int))) g.d=(firstP g st+(l:Int)) % g.d:=by rw [wrapI (by omega) (by omega),Int.tmod_eq_emod_of_nonneg (by omega)]
  have r2:IntKind.wrap .i64 ((IntKind.wrap .i64 (st*g.c))+off)=st*g.c+off:=by rw [wrapI (x:=st*g.c) (by omega) (by omega),wrapI (by omega) (by omega)]
  rw [r1,r2]
  refine ⟨.agg (plcV (plcP g st off (l:Int))),fun w' _=>run_build _ _ _ _ (by kernel_rfl),OpA_agg.2 ⟨rfl,?_⟩⟩
  refine ⟨_,_,bsl_pl1 _ w4,zC.2 ?_⟩
  have k5:=Keep.new (fun _=>False) w4 (.cells (plcV (plcP g st off (l:Int))) 84)
  have h5:=Has.new w4 (.cells (plcV (plcP g st off (l:Int))) 84)
  generalize hw5:w4.alloc (.cells (plcV (plcP g st off (l:Int))) 84)=w5 at *
  have k35:=((Keep.drew (fun _=>False) w3 dd).trans k4).trans k5
  have hb5:=k5.has hb4 (by simp)
  refine ⟨hb5,?_⟩
  have z5:=k35.size
  obtain ⟨p6,c6,w6,hr6,o6,k6,_⟩:=run_appendF1 plLayT (o3.keep k35 (by simp)) (y:=plcP g st off (l:Int)) h5 rfl (ty:=184) (by omega) (by simp only [maxLen];omega) (by omega) (c2:=1)
  have hb6:=k6.has hb5 (fun e=>by have:=(o3.lt e).1;omega)
  refine ⟨_,_,hr6,zC.2 ⟨hb6,?_⟩⟩
  have ek:IntKind.wrap .i64 ((l:Int)+1)=((l+1:Nat):Int):=by rw [wrapI (by omega) (by omega)];omega
  refine ⟨_,by show (g.d-IntKind.wrap .i64 ((l:Int)+1)).toNat<(g.d-(l:Int)).toNat;rw [ek];omega,⟨l+1,ek,by omega,rfl,by rw [rowP_succ];exact o6,hb6,(k3.trans k35).trans' k6 fun i hi e=>by have:=(o3.lt e).1;rw [hq] at hi;omega,by have:=k6.size;omega⟩,rfl⟩
 ·have hc:(l:Int)=g.d:=by
   have:¬ (l:Int)<g.d:=by simpa using hc
   omega
  have e:g.d.toNat=l:=by omega
  rw [e] at hK
  exact Ret_nil.2 (hK p c w3 (o3.rebase (by omega)) k3)
end calls
end Go.Proofs
