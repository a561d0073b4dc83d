import Derived.Test.YthhimblbnnafkaaGreatDm3
set_option linter.unusedSimpArgs false
set_option linter.unusedVariables false
namespace Go.Proofs
open Go Go.Ev
set_option maxRecDepth 100000
def zHh (b b2 : Nat) (p : Option Addr) (l c : Nat) (w : World) (R : Value → World → Prop) : Prop :=
 yC (σ := (Option Addr × Nat × Nat) × Int × Unit) (fun _ s1 w K1 => Cb (decide (s1.2.1 < IntKind.wrap .i64 (((l : Nat) :
 Int) - 2))) (IdxS p l s1.2.1 16 fun b5 o1 => Slc 16 16 none none none fun l2 h m => DoV Tryz.prog (Instr.buildSlice 187 1 #[(0, .slice (slcP 1 l2 m (some ⟨b5, o1, none⟩))
 (h - l2) (m - l2))]) w fun v12 w => OpS v12 fun p2 l3 c2 => DoV Tryz.prog (Builtin.append_ #[187, 187] 187 #[.slice s1.1.1 s1.1.2.1 s1.1.2.2, .slice p2 l3 c2]) w fun v13 w
 => OpS v13 fun p3 l4 c3 => K1 ((p3, l4, c3), (IntKind.wrap .i64 (s1.2.1 + 1), ())) w) (zB Tryz.prog 115 #[.slice s1.1.1 s1.1.2.1 s1.1.2.2] w fun v14 w => T3 v14 fun v15
 v16 v17 => OpS v15 fun p4 l5 c4 => OpS v16 fun p5 l6 c5 => OpI .i64 v17 fun n6 => yJ w fun S w => HO p4 l5 16 fun b6 o2 => LdA 16 b6 o2 (At w) fun cs6 => HO p5 l6
 16 fun b7 o3 => LdA 16 b7 o3 (At w) fun cs7 => IdxS p l (IntKind.wrap .i64 (((l : Nat) : Int) - 2)) 16 fun b8 o4 => StA 16 b8 o4 cs6 w fun w => Hld (S w) (IdxS p l
 (IntKind.wrap .i64 ((IntKind.wrap .i64 (((l : Nat) : Int) - 2)) + 1)) 16 fun b9 o5 => StA 16 b9 o5 cs7 w fun w => Hld (S w) (LdA 3 b 0 (At w) fun cs8 => LdV b2 0 (At w)
 fun v18 => OpI .i64 v18 fun n7 => LdV b2 2 (At w) fun v19 => OpI .i64 v19 fun n8 => zB Tryz.prog 109 #[.agg cs8, .int .i64 n7, .int .i64 n8] w fun v20 w => T2 v20 fun v21
 v22 => OpS v21 fun p6 l7 c6 => OpI .i64 v22 fun n9 => LdV b2 1 (At w) fun v23 => OpI .i64 v23 fun n10 => DoV Tryz.prog (Instr.buildSlice 69 3 #[(0, .int .i64 n10), (1, .int
 .i64 (IntKind.wrap .i64 (((l : Nat) : Int) - 2))), (2, .int .i64 (IntKind.wrap .i64 ((IntKind.wrap .i64 (((l : Nat) : Int) - 2)) + 1)))]) w fun v24 w => OpS v24 fun p7 l8
 c7 => zAj b b2 p l p6 l7 p7 l8 w R)))) ((none, 0, 0), (0, ())) w
section calls
variable {w : World} {q : SB} {s : SS} {R : Value → World → Prop}
theorem zMg (h : SetAt w q s) {b b2 : Nat} {dp : Option Addr} {dl dc : Nat} (hsl : SlL dLay w dp dl (q.bks.map Prod.fst)) {p : Option Addr} {base n c : Nat} {row : List Sec} {x : Int × Int × Int} (hst : 0 ≤ x.1 ∧ x.1 < q.g.s) (hof : 0 ≤ x.2.2 ∧ x.2.2 < q.g.c) (hco : 0 ≤ x.2.1 ∧ x.2.1 < q.g.d - 2) (hn : q.g.d.toNat = n)
  (hb : Has w b (.cells (setV q.g dp dl dc) 51 (0, 0))) (hb2 : Has w b2 (.cells (x5 x) 177 (0, 0))) (o1 : OwnL yG w base 37 p n c row) (hrok : ∀ f ∈ row, yD f) (hbase : base ≤ w.heap.size) (hsl' : ∀ w', Keep (fun k => p = some ⟨k, 0, none⟩) w w' → SlL dLay w' dp dl (q.bks.map Prod.fst))
  (hK : ∀ p' c' w', OwnL jM w' base 88 p' (uK q.g s x.1 x.2.2 (row.take (n - 2) ++ [sumP ((row.take (n - 2)).map some), sumQ ((row.take (n - 2)).map some)]) [x.2.1, q.g.d - 2, q.g.d - 1]).length c' (uK q.g s x.1 x.2.2 (row.take (n - 2) ++ [sumP ((row.take (n - 2)).map some), sumQ ((row.take (n - 2)).map some)]) [x.2.1, q.g.d - 2, q.g.d - 1]) → Keep (fun k => p = some ⟨k, 0, none⟩) w w' → R (.tuple #[.slice p' (uK q.g s x.1 x.2.2 (row.take (n - 2) ++ [sumP ((row.take (n - 2)).map some), sumQ ((row.take (n - 2)).map some)]) [x.2.1, q.g.d - 2, q.g.d - 1]).length c', .int .i64 0]) w') : zHh b b2 p n c w R := by
 unfold zHh
 have hgd := h.geo.d
 have hrl := o1.length
 have e2 : IntKind.wrap .i64 (((n : Nat) : Int) - 2) = ((n - 2 : Nat) : Int) := by rw [zW (by omega) (by omega)]; omega
 have e1 : IntKind.wrap .i64 (((n - 2 : Nat) : Int) + 1) = ((n - 1 : Nat) : Int) := by rw [zW (by omega) (by omega)]; omega
 rw [e2, e1]
 obtain ⟨bc, cur, hp, hbc, hhas, _⟩ := o1.cells (by omega)
 subst hp
 refine zP (σ := (Option Addr × Nat × Nat) × Int × Unit) (fun st' w' => ∃ k : Nat, st'.2.1 = (k : Int) ∧ k ≤ n - 2 ∧ st'.1.2.1 = k ∧ OwnL hLay w' w.heap.size 22 st'.1.1 k st'.1.2.2 (hdrs bc k) ∧ Keep (fun _ => False) w w') (fun st' _ => ((n - 2 : Nat) - st'.2.1).toNat)
  ⟨0, rfl, by omega, rfl, OwnL.nil, Keep.refl _ _⟩ ?_
 rintro _ ⟨⟨pa, la, ca⟩, i, u⟩ w1 ⟨k, hi, hk, hlk, oa, k1⟩
 simp only at hi hlk oa ⊢
 subst hi hlk
 have z1 := k1.size
 refine zN (fun hc => ?_) (fun hc => ?_)
 ·have hc : la < n - 2 := by
   have : (la : Int) < ((n - 2 : Nat) : Int) := by simpa using hc
   omega
  have ek : IntKind.wrap .i64 ((la : Int) + 1) = ((la + 1 : Nat) : Int) := by rw [zW (by omega) (by omega)]; omega
  refine ⟨bc, 0, rfl, by omega, by omega, ?_⟩
  refine OH (by omega) ?_
  rw [zQl, Int.toNat_natCast]
  refine ⟨_, _, zLe _ _ _ w1, zC.2 ?_⟩
  have k2 := Keep.new (fun _ => False) w1 (.cells #[.slice (some ⟨bc, 0 + la * 16, none⟩) (16 - 0) (16 - 0)] 22)
  have hb2 := Has.new w1 (.cells #[.slice (some ⟨bc, 0 + la * 16, none⟩) (16 - 0) (16 - 0)] 22)
  generalize w1.alloc (.cells #[.slice (some ⟨bc, 0 + la * 16, none⟩) (16 - 0) (16 - 0)] 22) = w2 at *
  have z2 := k2.size
  obtain ⟨p3, c3, w3, hr3, o3, k3, _⟩ := yK zJf (oa.keep k2 (by simp)) (y := (some ⟨bc, 0 + la * 16, none⟩, 16, 16)) hb2 rfl (ty := 187) (by omega) (by simp only [maxLen]; omega) (by omega) (c2 := 1)
  refine ⟨_, _, hr3, zC.2 ?_⟩
  refine ⟨_, by show (((n - 2 : Nat) : Int) - IntKind.wrap .i64 ((la : Int) + 1)).toNat < (((n - 2 : Nat) : Int) - (la : Int)).toNat; rw [ek]; omega, ⟨la + 1, ek, by omega, rfl, by rw [zG9]; exact o3, (k1.trans k2).trans' k3 fun i hi e => by have := (oa.lt e).1; omega⟩, rfl⟩
 ·have hc : la = n - 2 := by
   have : ¬ (la : Int) < ((n - 2 : Nat) : Int) := by simpa using hc
   omega
  subst hc
  have o11 := o1.keep k1 (by simp)
  have hcols : Cols w1 pa (n - 2) (hdrs bc (n - 2)) ((row.take (n - 2)).map some) := by
   refine ⟨oa.sl, by rw [zBq, List.length_map, List.length_take]; omega, fun i h C h1 h2 => ?_, kR fun f hf => hrok f (List.mem_of_mem_take hf)⟩
   have hi : i < n - 2 := by have := (List.getElem?_eq_some_iff.1 h1).1; rwa [zBq] at this
   unfold hdrs at h1
   rw [List.getElem?_map, List.getElem?_range hi] at h1
   cases h1
   rw [List.getElem?_map, List.getElem?_take, if_pos hi] at h2
   obtain ⟨f, hf⟩ : ∃ f, row[i]? = some f := ⟨_, List.getElem?_eq_getElem (by omega)⟩
   rw [hf] at h2
   cases h2
   exact zM3 o11.sl hf
  refine zIq hcols (by omega) (by omega) (zFw _) fun bp bq w2 hne hbp hbq op oq k2 => ?_
  refine ⟨_, _, _, rfl, zC.2 (zC.2 (zA.2 ?_))⟩
  generalize sumP ((row.take (n - 2)).map some) = P at *
  generalize sumQ ((row.take (n - 2)).map some) = Q at *
  intro d
  have kd := Keep.drew (fun _ => False) w2 d
  refine ⟨fun _ => True, trivial, ?_⟩
  have k02 := (k1.trans k2).trans kd
  have o12 := o1.keep k02 (by simp)
  have opd := op.keep kd (by simp)
  have oqd := oq.keep kd (by simp)
  have hbd := k02.has hb (by simp)
  have hb2d := k02.has hb2 (by simp)
  generalize w2.dr d = w3 at *
  refine zMu opd.sl ⟨_, _, rfl⟩ ?_
  refine zMu oqd.sl ⟨_, _, rfl⟩ ?_
  refine o12.stA (i := ((n - 2 : Nat) : Int)) (n := 16) rfl (by omega) (by omega) P (by show secV P = ((secV P).toList).toArray; simp) fun w4 o4 k4 z4 => ⟨trivial, ?_⟩
  refine o4.stA (i := ((n - 1 : Nat) : Int)) (n := 16) rfl (by omega) (by omega) Q (by show secV Q = ((secV Q).toList).toArray; simp) fun w5 o5 k5 z5 => ⟨trivial, ?_⟩
  rw [Int.toNat_natCast, Int.toNat_natCast, zM1 hrl.symm (by omega)] at o5
  have k35 := k4.trans k5
  have hb3 := k35.has hbd (OwnL.neH o12 hbd (by decide))
  have hb23 := k35.has hb2d (OwnL.neH o12 hb2d (by decide))
  have k05 : Keep (fun k => (some (⟨bc, 0, none⟩ : Addr)) = some ⟨k, 0, none⟩) w w5 := (k02.mono fun _ h => h.elim).trans k35
  have hsf : ∀ i, vJ q i → ¬ (some (⟨bc, 0, none⟩ : Addr)) = some ⟨i, 0, none⟩ := by
   intro i hi e
   cases e
   exact h.typ hhas (by decide) (by decide) (by decide) hi
  have h5 := h.keep k05 hsf
  refine xO (cs := geoV q.g) hb3 (by show 0 + 3 ≤ 4; decide) rfl ?_
  refine zG (v := .int .i64 x.1) hb23 rfl (zA.2 ?_)
  refine zG (v := .int .i64 x.2.2) hb23 rfl (zA.2 ?_)
  refine zPi h.geo hst hof fun p6 c6 w6 o6 k6 => ?_
  refine yM.2 (zC.2 (zA.2 ?_))
  have hb26 := k6.has hb23 (by simp)
  refine zG (v := .int .i64 x.2.1) hb26 rfl (zA.2 ?_)
  refine ⟨_, _, zQ1 _ _ _ w6, zC.2 ?_⟩
  have k7 := Keep.new (fun _ => False) w6 (.cells #[.int .i64 x.2.1, .int .i64 ((n - 2 : Nat) : Int), .int .i64 ((n - 1 : Nat) : Int)] 3)
  have hb7 := Has.new w6 (.cells #[.int .i64 x.2.1, .int .i64 ((n - 2 : Nat) : Int), .int .i64 ((n - 1 : Nat) : Int)] 3)
  generalize hw7 : w6.alloc (.cells #[.int .i64 x.2.1, .int .i64 ((n - 2 : Nat) : Int), .int .i64 ((n - 1 : Nat) : Int)] 3) = w7 at *
  have o7 : OwnL nLay w7 0 3 (some ⟨w6.heap.size, 0, none⟩) 3 3 [x.2.1, ((n - 2 : Nat) : Int), ((n - 1 : Nat) : Int)] := OwnL.mk (xs := [x.2.1, ((n - 2 : Nat) : Int), ((n - 1 : Nat) : Int)]) (Nat.zero_le _) hb7 (by simp [maxLen]) rfl
  have k57 := k6.trans k7
  have k07 : Keep (fun k => (some (⟨bc, 0, none⟩ : Addr)) = some ⟨k, 0, none⟩) w w7 := k05.trans (k57.mono fun _ h => h.elim)
  rw [hn] at o6 ⊢
  have hks : [x.2.1, q.g.d - 2, q.g.d - 1] = [x.2.1, ((n - 2 : Nat) : Int), ((n - 1 : Nat) : Int)] := by
   rw [show ((n - 2 : Nat) : Int) = q.g.d - 2 by omega, show ((n - 1 : Nat) : Int) = q.g.d - 1 by omega]
  rw [hks] at hK
  have z7 := k07.size
  refine zMh (h.keep k07 hsf) (hsl' w7 k07) hst hof hn (k57.has hb3 (by simp)) ((o5.y5 (Nat.zero_le _)).keep k57 (by simp)) ((o6.y5 (Nat.zero_le _)).keep k7 (by simp)) o7 ?_ (by simp) fun p' c' w8 o8 k8 => ?_
  ·intro k hk
   simp only [List.mem_cons, List.not_mem_nil, or_false] at hk
   rcases hk with rfl | rfl | rfl
   ·omega
   ·omega
   ·omega
  ·exact hK p' c' w8 (o8.y5 (by omega)) (k07.trans (k8.mono fun _ h => h.elim))
theorem zLw (h : SetAt w q s) {p : Option Addr} {l c : Nat} (hsl : SlL dLay w p l (q.bks.map Prod.fst)) (hlc : l ≤ c) (hok : ∀ D ∈ s.ds, jN D) {lba : Int} (h0 : 0 ≤ lba) (h1 : lba < (q.g.d - 2) * q.g.c * q.g.s) {data : Sec} (hdata : yD data)
  (hK : ∀ p' c' w', OwnL jM w' w.heap.size 88 p' (yR q.g s lba data).1.length c' (yR q.g s lba data).1 → Keep (fun _ => False) w w' → R (.tuple #[.slice p' (yR q.g s lba data).1.length c', .int .i64 (yR q.g s lba data).2]) w') : zB Tryz.prog 35 #[.agg (setV q.g p l c), .int .i64 lba, .agg (secV data)] w R := by
 apply ON
 unfold WM
 obtain ⟨pst, pco, pof⟩ := vR h.geo h0 h1
 have hgd := h.geo.d
 unfold yR at hK
 generalize hx : yT q.g lba = x at *
 simp only at hK
 refine zK fun w1 hb1 k1 z1 => ?_
 refine zK fun w2 hb2 k2 z2 => ?_
 have hs2 := k2.has hb1 (by simp)
 have k02 := k1.trans k2
 refine zQ hs2 rfl ?_
 refine q8 (h.zX k02) (hsl.yA k02 (by simp)) hlc fun w3 k3 => ?_
 refine zA.2 ((zH (p := _)).2 ?_)
 refine xO (cs := geoV q.g) (k3.has hs2 (by simp)) (by show 0 + 3 ≤ 4; decide) rfl ?_
 refine zPj h.geo h0 h1 fun w4 k4 => ?_
 rw [hx]
 refine ⟨_, _, _, rfl, zJ.2 ⟨rfl, zJ.2 ⟨rfl, zA.2 ?_⟩⟩⟩
 refine zK fun w5 hb5 k5 z5 => ?_
 refine zK fun w6 hb6 k6 z6 => ?_
 have hb56 := k6.has hb5 (by simp)
 have k26 := ((k3.trans k4).trans k5).trans k6
 have z26 : w2.heap.size ≤ w4.heap.size := (k3.trans k4).size
 have z02 := k02.size
 refine yB hb56 rfl (by rw [zE5]; rfl) (XX x) ?_
 have hb7 := hb56.zL (.cells (x5 x) 177 (0, 0))
 have hb6' : Has (w6.upd w4.heap.size (.cells (x5 x) 177 (0, 0))) w5.heap.size (.cells (zc Tryz.prog 84) 84 (0, 0)) := Has.upd hb6 (by omega)
 have k27 : Keep (fun _ => False) w2 (w6.upd w4.heap.size (.cells (x5 x) 177 (0, 0))) := (Keep.refl (fun _ => False) w2).trans' ((k26.mono fun _ h => h.elim).upd (S := fun k => k = w4.heap.size) (fun _ => rfl) _) fun i hi e => by omega
 refine yB hb6' rfl (by rw [zAu]; rfl) (NS _) ?_
 have hb78 : Has ((w6.upd w4.heap.size (.cells (x5 x) 177 (0, 0))).upd w5.heap.size (.cells (plcV (plcP q.g x.1 x.2.2 x.2.1)) 84 (0, 0))) w4.heap.size (.cells (x5 x) 177 (0, 0)) := Has.upd hb7 (by omega)
 have k28 : Keep (fun _ => False) w2 ((w6.upd w4.heap.size (.cells (x5 x) 177 (0, 0))).upd w5.heap.size (.cells (plcV (plcP q.g x.1 x.2.2 x.2.1)) 84 (0, 0))) := (Keep.refl (fun _ => False) w2).trans' ((k27.mono fun _ h => h.elim).upd (S := fun k => k = w5.heap.size) (fun _ => rfl) _) fun i hi e => by omega
 generalize (w6.upd w4.heap.size (.cells (x5 x) 177 (0, 0))).upd w5.heap.size (.cells (plcV (plcP q.g x.1 x.2.2 x.2.1)) 84 (0, 0)) = w8 at *
 have k08 := k02.trans k28
 have hs8 := k28.has hs2 (by simp)
 have hr8 := k28.has hb2 (by simp)
 have hbr : w.heap.size ≤ w1.heap.size := by omega
 generalize w1.heap.size = br at *
 generalize w4.heap.size = bs at *
 refine (zH (p := _)).2 ?_
 refine zQ hs8 rfl ?_
 refine zG (v := .int .i64 x.1) hb78 rfl (zA.2 ?_)
 refine zG (v := .int .i64 x.2.2) hb78 rfl (zA.2 ?_)
 refine zKr (h.zX k08) (hsl.yA k08 (by simp)) hlc hok pst pof ?_ ?_ ?_
 ·intro hp w9 k9
  rw [if_pos hp] at hK
  exact ⟨_, _, _, rfl, zC.2 (zC.2 (zA.2 ((zT (q := _)).2 (zF.2 (hK none 0 w9 OwnL.nil (k08.trans k9))))))⟩
 ·intro hp hl w9 k9
  rw [if_neg (by simp [hp]), if_neg hl] at hK
  exact ⟨_, _, _, rfl, zC.2 (zC.2 (zA.2 ((zT (q := _)).2 (zF.2 (hK none 0 w9 OwnL.nil (k08.trans k9))))))⟩
 ·intro hp hl p' c' lp ll lc w9 o9 on9 k9
  rw [if_neg (by simp [hp]), if_pos hl] at hK
  refine ⟨_, _, _, rfl, zC.2 (zC.2 (zA.2 ((zH (p := _)).2 ?_)))⟩
  have k09 := k08.trans k9
  have z9 := k09.size
  refine zG (v := .int .i64 x.2.1) (k9.has hb78 (by simp)) rfl (zA.2 ?_)
  refine zQ (k9.has hr8 (by simp)) rfl ?_
  have o9 := o9.y5 (show w.heap.size ≤ w8.heap.size from k08.size)
  have hlen : (rowR (yU q.g s x.1 x.2.2)).length = q.g.d.toNat := by rw [N1 (by rw [uU]; omega), uU]
  have hrok := zM8 (zC7 (g := q.g) (st := x.1) (off := x.2.2) hok)
  generalize rowR (yU q.g s x.1 x.2.2) = row at *
  refine o9.stA (i := x.2.1) (n := 16) rfl pco.1 (by omega) data (by show secV data = ((secV data).toList).toArray; simp) fun w10 o10 k10 z10 => ?_
  have ks9 := k9.has hs8 (by simp)
  have kt9 := k9.has hb78 (by simp)
  have k010 : Keep (fun _ => False) w w10 := k09.trans' k10 fun i hi e => by have := (o9.lt e).1; omega
  have z10' := k010.size
  have hrow : rowW row x.2.1.toNat data = (row.set x.2.1.toNat data).take (q.g.d.toNat - 2) ++ [sumP (((row.set x.2.1.toNat data).take (q.g.d.toNat - 2)).map some), sumQ (((row.set x.2.1.toNat data).take (q.g.d.toNat - 2)).map some)] := by unfold rowW; rw [hlen]
  rw [hrow] at hK
  refine zMg (base := w.heap.size) (h.zX k010) (hsl.yA k010 (by simp)) pst pof pco rfl (k10.has ks9 (OwnL.neH o9 ks9 (by decide))) (k10.has kt9 (OwnL.neH o9 kt9 (by decide))) o10 (fun f hf => ?_) (by omega) (fun w' k' => ?_) fun p3 c3 w11 o11 k11 => ?_
  ·rcases mem_set hf with rfl | hf
   ·exact hdata
   ·exact hrok f hf
  ·exact hsl.yA (k010.trans' k' fun i hi e => by have := (o10.lt e).1; omega) (by simp)
  ·exact hK p3 c3 w11 o11 (k010.trans' k11 fun i hi e => by have := (o10.lt e).1; omega)
end calls
def keyL (k : Int) (l : List Dsk) : Int := l.foldl (fun k D => if D.dead = true then k else max k D.key) k
def keyS (s : SS) : Int := keyL 0 s.ds
def xM (s : SS) (ep : Int) : Int × SS :=
 if s.pw.on = false then (4, s) else (0, ⟨s.ds.map fun D => (xE s.pw D ep).2, s.pw⟩)
theorem ZO (pw : Pow) (D : Dsk) (ep : Int) : (xE pw D ep).2.secs = D.secs := by
 unfold xE
 split
 ·rfl
 ·split <;> rfl
theorem zMq {a b : Int} (h1 : 0 ≤ a ∧ a ≤ 4294967295) (h2 : 0 ≤ b ∧ b ≤ 4294967295) : 0 ≤ max a b ∧ max a b ≤ 4294967295 := by omega
theorem zGk {pw : Pow} {D : Dsk} {ep : Int} (h : jN D) (hep : 0 ≤ ep ∧ ep ≤ 4294967295) : jN (xE pw D ep).2 := by
 refine ⟨by rw [ZO]; exact h.1, ?_⟩
 unfold xE
 split
 ·exact h.2
 ·split
  ·exact h.2
  ·exact zMq h.2 hep
section calls
variable {w : World} {q : SB} {s : SS} {R : Value → World → Prop}
theorem zKs (h : SetAt w q s) {p : Option Addr} {l c : Nat} (hsl : SlL dLay w p l (q.bks.map Prod.fst)) (hlc : l ≤ c)
  (hK : ∀ w', Keep (fun _ => False) w w' → R (.int .u32 (keyS s)) w') : zB Tryz.prog 42 #[.agg (setV q.g p l c)] w R := by
 apply L0
 unfold UD
 have hll : l = s.ds.length := by have := hsl.1; rw [List.length_map, h.len] at this; exact this
 have hgd := h.geo.d
 have hnum := h.num
 refine zK fun w1 hb1 k1 z1 => ?_
 refine zQ hb1 rfl ?_
 refine q8 (h.zX k1) (hsl.yA k1 (by simp)) hlc fun w2 k2 => ?_
 refine zA.2 ((zH (p := _)).2 ?_)
 have k02 := k1.trans k2
 refine zG (v := .slice p l c) (k2.has hb1 (by simp)) rfl (zC.2 ?_)
 refine zP (σ := Int × Int × Unit) (fun st w' => ∃ i : Nat, st.2.1 = (i : Int) ∧ i ≤ l ∧ st.1 = keyL 0 (s.ds.take i) ∧ Keep (fun _ => False) w w') (fun st _ => (l - st.2.1).toNat) ⟨0, rfl, by omega, rfl, k02⟩ ?_
 rintro _ ⟨m, i, u⟩ w3 ⟨i', hi, hil, hm, k3⟩
 simp only at hi hm ⊢
 subst hi hm
 have h3 := h.zX k3
 refine zN (fun hc => ?_) (fun hc => ?_)
 ·have hc : i' < l := by
   have : (i' : Int) < (l : Int) := by simpa using hc
   omega
  have ek : IntKind.wrap .i64 ((i' : Int) + 1) = ((i' + 1 : Nat) : Int) := by rw [zW (by omega) (by omega)]; omega
  obtain ⟨b, r, D, hbk, hD, hda, hdl⟩ := h3.get (i := i') (by omega)
  refine (hsl.yA k3 (by simp)).ld0 (i := (i' : Int)) (n := 1) (x := b) (v := .pointer (some ⟨b, 0, none⟩)) rfl (by omega) (by rw [Int.toNat_natCast, List.getElem?_map, hbk]; rfl) rfl (zO.2 ?_)
  have hst : keyL 0 (s.ds.take (i' + 1)) = if D.dead = true then keyL 0 (s.ds.take i') else max (keyL 0 (s.ds.take i')) D.key := by
   unfold keyL
   rw [List.take_add_one, hD, List.foldl_append]; rfl
  refine GS hda (zM.2 ?_)
  refine zN (fun hal => ?_) (fun hal => ?_)
  ·have hal : D.dead = false := by simpa using hal
   rw [if_neg (by simp [hal])] at hst
   refine zR0 hda (zA.2 ?_)
   refine zV (v := .int .u32 (max (keyL 0 (s.ds.take i')) D.key)) (fun d => zEr _ _ _ _ _ _) (zA.2 ?_)
   exact ⟨_, by show ((l : Int) - IntKind.wrap .i64 ((i' : Int) + 1)).toNat < ((l : Int) - (i' : Int)).toNat; rw [ek]; omega, ⟨i' + 1, ek, by omega, hst.symm, k3⟩, rfl⟩
  ·have hal : D.dead = true := by simpa using hal
   rw [if_pos hal] at hst
   exact ⟨_, by show ((l : Int) - IntKind.wrap .i64 ((i' : Int) + 1)).toNat < ((l : Int) - (i' : Int)).toNat; rw [ek]; omega, ⟨i' + 1, ek, by omega, hst.symm, k3⟩, rfl⟩
 ·have hc : i' = l := by
   have : ¬ (i' : Int) < (l : Int) := by simpa using hc
   omega
  rw [List.take_of_length_le (by omega)]
  exact zF.2 (hK w3 k3)
theorem zI4 (h : SetAt w q s) {p : Option Addr} {l c : Nat} (hsl : SlL dLay w p l (q.bks.map Prod.fst)) (hlc : l ≤ c) (hpf : ∀ b o, p = some ⟨b, o, none⟩ → ¬ vJ q b) (hok : ∀ D ∈ s.ds, jN D) {ep : Int} (hep : 0 ≤ ep ∧ ep ≤ 4294967295)
  (hK : ∀ w', SetAt w' q (xM s ep).2 → Keep (vJ q) w w' → R (.int .i64 (xM s ep).1) w') : zB Tryz.prog 40 #[.agg (setV q.g p l c), .int .u32 ep] w R := by
 apply HQ
 unfold YE
 have hll : l = s.ds.length := by have := hsl.1; rw [List.length_map, h.len] at this; exact this
 have hgd := h.geo.d
 have hnum := h.num
 refine zK fun w1 hb1 k1 z1 => ?_
 refine zQ hb1 rfl ?_
 refine q8 (h.zX k1) (hsl.yA k1 (by simp)) hlc fun w2 k2 => ?_
 refine zA.2 ((zH (p := _)).2 ?_)
 have k02 := k1.trans k2
 refine zG (v := .slice p l c) (k2.has hb1 (by simp)) rfl (zC.2 ?_)
 unfold xM at hK
 refine zP (σ := Int × Unit) (fun st w' => ∃ i : Nat, st.1 = (i : Int) ∧ i ≤ l ∧ (0 < i → s.pw.on = true) ∧ SetAt w' q ⟨(s.ds.take i).map (fun D => (xE s.pw D ep).2) ++ s.ds.drop i, s.pw⟩ ∧ Keep (vJ q) w w') (fun st _ => (l - st.1).toNat) ⟨0, rfl, by omega, fun h => absurd h (by omega), h.zX k02, k02.mono fun _ h => h.elim⟩ ?_
 rintro _ ⟨i, u⟩ w3 ⟨i', hi, hil, hon, h3, k3⟩
 simp only at hi ⊢
 subst hi
 refine zN (fun hc => ?_) (fun hc => ?_)
 ·have hc : i' < l := by
   have : (i' : Int) < (l : Int) := by simpa using hc
   omega
  have ek : IntKind.wrap .i64 ((i' : Int) + 1) = ((i' + 1 : Nat) : Int) := by rw [zW (by omega) (by omega)]; omega
  have hlm : ((s.ds.take i').map (fun D => (xE s.pw D ep).2)).length = i' := by rw [List.length_map, List.length_take]; omega
  obtain ⟨b, r, D, hbk, hD, hda, hdl⟩ := h3.get (i := i') (by show i' < ((s.ds.take i').map (fun D => (xE s.pw D ep).2) ++ s.ds.drop i').length; rw [List.length_append, hlm, List.length_drop]; omega)
  have hD : ((s.ds.take i').map (fun D => (xE s.pw D ep).2) ++ s.ds.drop i')[i']? = some D := hD
  rw [List.getElem?_append_right (by omega), hlm, Nat.sub_self, List.getElem?_drop, Nat.add_zero] at hD
  have hDok := hok D (List.mem_of_getElem? hD)
  refine (hsl.keep k3 hpf).ld0 (i := (i' : Int)) (n := 1) (x := b) (v := .pointer (some ⟨b, 0, none⟩)) rfl (by omega) (by rw [Int.toNat_natCast, List.getElem?_map, hbk]; rfl) rfl (zO.2 ?_)
  have hdo := zNc (R := fun v w' => v = .int .i64 (xE s.pw D ep).1 ∧ DiskAt w' q.m b r (xE s.pw D ep).2 ∧ Keep (fun k => k = b) w3 w') hda h3.main hDok.2 hep (fun w4 hd4 k4 => ⟨rfl, hd4, k4⟩)
  refine hdo.mono fun v w4 hv => ?_
  obtain ⟨rfl, hd4, k4⟩ := hv
  refine zA.2 ?_
  have hbm : b ≠ q.m := (hda.nem h3.main).1
  have kf : Keep (vJ q) w3 w4 := k4.mono fun k hk => Or.inr (Or.inl (by rw [hk]; exact List.mem_map.2 ⟨(b, r), List.mem_of_getElem? hbk, rfl⟩))
  have hm4 : MaAt w4 q.m s.pw := k4.has h3.main (fun e => hbm e.symm)
  have h4 := h3.upd hbk (k4.mono fun k hk => Or.inr (Or.inl hk)) hd4 (by rw [ZO]; exact hdl) hm4
  by_cases hp : s.pw.on = false
  ·have e4 : (xE s.pw D ep).1 = 4 := by unfold xE; rw [if_pos hp]
   have e5 : (xE s.pw D ep).2 = D := by unfold xE; rw [if_pos hp]
   rw [e4]
   rw [if_pos hp] at hK
   refine (zT (q := _)).2 (zF.2 (hK w4 ?_ (k3.trans kf)))
   have h0 : i' = 0 := by
    refine Classical.byContradiction fun hne => ?_
    have := hon (by omega)
    rw [hp] at this
    cases this
   subst h0
   have : SS.mk (((s.ds.take 0).map (fun D => (xE s.pw D ep).2) ++ s.ds.drop 0).set 0 (xE s.pw D ep).2) s.pw = s := by
    rw [e5, List.take_zero, List.map_nil, List.nil_append, List.drop_zero]
    have : s.ds.set 0 D = s.ds := by
     apply List.ext_getElem?
     intro i
     by_cases h : 0 = i
     ·subst h; rw [List.getElem?_set_self (by omega), hD]
     ·rw [List.getElem?_set_ne h]
    rw [this]
   rw [this] at h4
   exact h4
  ·have e4 : ((xE s.pw D ep).1 == 4) = false := by
    unfold xE
    rw [if_neg hp]
    split <;> rfl
   rw [e4]
   refine (zH (p := _)).2 ?_
   refine ⟨_, by show ((l : Int) - IntKind.wrap .i64 ((i' : Int) + 1)).toNat < ((l : Int) - (i' : Int)).toNat; rw [ek]; omega, ⟨i' + 1, ek, by omega, fun _ => by simpa using hp, ?_, k3.trans kf⟩, rfl⟩
   have : ((s.ds.take i').map (fun D => (xE s.pw D ep).2) ++ s.ds.drop i').set i' (xE s.pw D ep).2 = (s.ds.take (i' + 1)).map (fun D => (xE s.pw D ep).2) ++ s.ds.drop (i' + 1) := by
    rw [List.set_append_right _ _ (by omega), hlm, Nat.sub_self, List.drop_eq_getElem_cons (by omega), List.set_cons_zero, List.take_add_one, hD, List.map_append, List.append_assoc]
    rfl
   rw [← this]
   exact h4
 ·have hc : i' = l := by
   have : ¬ (i' : Int) < (l : Int) := by simpa using hc
   omega
  have hp := hon (by omega)
  rw [if_neg (by simp [hp])] at hK
  rw [List.take_of_length_le (by omega), List.drop_of_length_le (by omega), List.append_nil] at h3
  exact zF.2 (hK w3 h3 k3)
end calls
theorem TI (co : Nat → Nat) (Cs : List (Option Sec)) (k : Nat) : sumI co Cs (k + 1) = NK (co k) (sumI co Cs k) (Cs.getD k none) := rfl
theorem X5 {α : Type} {l : List α} {i : Nat} (h : i < l.length) (a d : α) : (l.set i a).getD i d = a := by
 rw [List.getD_eq_getElem?_getD, List.getElem?_set_self h]; rfl
theorem getD_set_ne {α : Type} {l : List α} {i j : Nat} (h : i ≠ j) (a d : α) : (l.set i a).getD j d = l.getD j d := by
 rw [List.getD_eq_getElem?_getD, List.getElem?_set_ne h, List.getD_eq_getElem?_getD]
theorem q7 {g : Nat} {f y : Sec} (k : Fin 16) : (xadd g f y k).toNat = (f k).toNat ^^^ gmN g (y k).toNat := by unfold xadd; omega
theorem zB0 {co : Nat → Nat} {D : List (Option Sec)} {i : Nat} {x : Sec} (hi : i < D.length) (hn : D[i]? = some none) (b : Fin 16) : ∀ k, (sumI co (D.set i (some x)) k b).toNat = if i < k then (sumI co D k b).toNat ^^^ gmN (co i) (x b).toNat else (sumI co D k b).toNat
 | 0 => by rw [if_neg (by omega)]; rfl
 | k + 1 => by
  have ih := zB0 (co := co) (x := x) hi hn b k
  rw [TI, TI]
  by_cases hk : i = k
  ·subst hk
   have e : D.getD i none = none := by rw [List.getD_eq_getElem?_getD, hn]; rfl
   rw [X5 hi, e, if_pos (by omega)]
   show (xadd (co i) _ x b).toNat = (sumI co D i b).toNat ^^^ _
   rw [q7, ih, if_neg (by omega)]
  ·rw [getD_set_ne hk]
   cases hC : D.getD k none with
   | none =>
    show (sumI co (D.set i (some x)) k b).toNat = if i < k + 1 then (sumI co D k b).toNat ^^^ _ else (sumI co D k b).toNat
    rw [ih]
    by_cases h : i < k
    ·rw [if_pos h, if_pos (by omega)]
    ·rw [if_neg h, if_neg (by omega)]
   | some y =>
    show (xadd (co k) _ y b).toNat = if i < k + 1 then (xadd (co k) _ y b).toNat ^^^ _ else (xadd (co k) _ y b).toNat
    rw [q7, q7, ih]
    by_cases h : i < k
    ·rw [if_pos h, if_pos (by omega), Nat.xor_assoc, Nat.xor_assoc, Nat.xor_comm (gmN (co i) _)]
    ·rw [if_neg h, if_neg (by omega)]
theorem ZE {co : Nat → Nat} {D : List (Option Sec)} {i : Nat} {x : Sec} (hi : i < D.length) (hn : D[i]? = some none) (b : Fin 16) : (sumI co (D.set i (some x)) (D.set i (some x)).length b).toNat = (sumI co D D.length b).toNat ^^^ gmN (co i) (x b).toNat := by
 rw [List.length_set, zB0 hi hn, if_pos hi]
structure TrueRow (T : List Sec) (D : List (Option Sec)) (P Q : Option Sec) : Prop where
 len : T.length = D.length
 dat : ∀ (k : Nat) f, D[k]? = some (some f) → T[k]? = some f
 ok : ∀ f ∈ T, yD f
 p : ∀ f, P = some f → f = sumP (T.map some)
 q : ∀ f, Q = some f → f = sumQ (T.map some)
theorem NN {f g : Sec} (hf : yD f) (hg : yD g) (h : ∀ b, (f b).toNat = (g b).toNat) : f = g := by
 funext b
 have h1 := vN (hf b)
 have h2 := vN (hg b)
 have := h b
 omega
theorem zFv {D : List (Option Sec)} (h : xY D = []) : ∀ C ∈ D, ∃ f, C = some f := by
 intro C hC
 cases C with
 | some f => exact ⟨f, rfl⟩
 | none =>
  obtain ⟨n, hn⟩ := List.getElem?_of_mem hC
  have := QG hn
  rw [h] at this
  cases this
theorem TrueRow.map {T : List Sec} {D Z : List (Option Sec)} {P Q : Option Sec} (h : TrueRow T D P Q) (hl : Z.length = D.length) (hZ : ∀ (k : Nat) C, Z[k]? = some C → (∃ f, C = some f ∧ D[k]? = some (some f)) ∨ C = T[k]?) : T.map some = Z := by
 apply List.ext_getElem?
 intro k
 rw [List.getElem?_map]
 by_cases hk : k < Z.length
 ·obtain ⟨C, hC⟩ : ∃ C, Z[k]? = some C := ⟨_, List.getElem?_eq_getElem hk⟩
  obtain ⟨t, hT⟩ : ∃ t, T[k]? = some t := ⟨_, List.getElem?_eq_getElem (by rw [h.len]; omega)⟩
  rw [hC]
  rcases hZ k C hC with ⟨f, rfl, hf⟩ | rfl
  ·rw [h.dat k f hf]; rfl
  ·rw [hT]; rfl
 ·rw [List.getElem?_eq_none (by rw [h.len]; omega), List.getElem?_eq_none (by omega)]; rfl
theorem NI (a x : Nat) : a ^^^ (a ^^^ x) = x := by rw [← Nat.xor_assoc, Nat.xor_self, Nat.zero_xor]
theorem TrueRow.none_ {T : List Sec} {D : List (Option Sec)} {P Q : Option Sec} (h : TrueRow T D P Q) (hg : xY D = []) : T.map some = D :=
 h.map rfl fun k C hC => by
  obtain ⟨f, rfl⟩ := zFv hg C (List.mem_of_getElem? hC)
  exact Or.inl ⟨f, rfl, hC⟩
theorem zBs {D : List (Option Sec)} {k : Nat} (h : (k : Int) ∉ xY D) {C : Option Sec} (hC : D[k]? = some C) : ∃ f, C = some f := by
 cases C with
 | some f => exact ⟨f, rfl⟩
 | none => exact absurd (QG hC) h
theorem TrueRow.one_ {T : List Sec} {D : List (Option Sec)} {P Q : Option Sec} (h : TrueRow T D P Q) {i : Nat} (hg : xY D = [(i : Int)]) {x : Sec} (hx : T[i]? = some x) : T.map some = D.set i (some x) :=
 h.map (by simp) fun k C hC => by
  by_cases hk : i = k
  ·subst hk
   have hlt : i < D.length := by rw [← h.len]; exact (List.getElem?_eq_some_iff.1 hx).1
   rw [List.getElem?_set_self hlt] at hC
   cases hC
   exact Or.inr hx.symm
  ·rw [List.getElem?_set_ne hk] at hC
   obtain ⟨f, rfl⟩ := zBs (by rw [hg]; simp; omega) hC
   exact Or.inl ⟨f, rfl, hC⟩
theorem TrueRow.two_ {T : List Sec} {D : List (Option Sec)} {P Q : Option Sec} (h : TrueRow T D P Q) {i j : Nat} (hg : xY D = [(i : Int), (j : Int)]) {x y : Sec} (hx : T[i]? = some x) (hy : T[j]? = some y) : T.map some = (D.set i (some x)).set j (some y) :=
 h.map (by simp) fun k C hC => by
  have hli : i < D.length := by rw [← h.len]; exact (List.getElem?_eq_some_iff.1 hx).1
  have hlj : j < D.length := by rw [← h.len]; exact (List.getElem?_eq_some_iff.1 hy).1
  by_cases hk : j = k
  ·subst hk
   rw [List.getElem?_set_self (by simpa using hlj)] at hC
   cases hC
   exact Or.inr hy.symm
  ·rw [List.getElem?_set_ne hk] at hC
   by_cases hk2 : i = k
   ·subst hk2
    rw [List.getElem?_set_self hli] at hC
    cases hC
    exact Or.inr hx.symm
   ·rw [List.getElem?_set_ne hk2] at hC
    obtain ⟨f, rfl⟩ := zBs (by rw [hg]; simp; omega) hC
    exact Or.inl ⟨f, rfl, hC⟩
theorem zBp {g : Nat} {f p x : Sec} (hx : yD x) (hg : g < 256) (hf : yD f) (h : ∀ b, (p b).toNat = (f b).toNat ^^^ gmN g (x b).toNat) (b : Fin 16) : (xadd 1 f p b).toNat = gmN g (x b).toNat := by
 have h1 := (vN (hf b)).2
 have h2 : gmN g (x b).toNat < 256 := xK hg
 rw [q7, h b, gM (xQ h1 h2), NI]
theorem TrueRow.fix {T : List Sec} {D : List (Option Sec)} {P Q : Option Sec} (h : TrueRow T D P Q) (hl : T.length ≤ 30) (hlost : xA D + xA [P, Q] ≤ 2) : fixC D P Q = T.map some := by
 have hgl := gL D
 have hDok : ∀ C ∈ D, u5 C := by
  intro C hC
  cases C with
  | none => trivial
  | some f =>
   obtain ⟨k, hk⟩ := List.getElem?_of_mem hC
   exact h.ok f (List.mem_of_getElem? (h.dat k f hk))
 have sP : yD (sumP D) := vH (fun _ => by omega) hDok _
 have sQ : yD (sumQ D) := vH vU hDok _
 have idx : ∀ x ∈ xY D, ∃ n : Nat, x = (n : Int) ∧ n < D.length ∧ D[n]? = some none := fun x hx => wD D D.length x hx
 have hTl : ∀ {n : Nat}, n < D.length → ∃ t, T[n]? = some t ∧ yD t := fun {n} hn => by
  obtain ⟨t, ht⟩ : ∃ t, T[n]? = some t := ⟨_, List.getElem?_eq_getElem (by rw [h.len]; omega)⟩
  exact ⟨t, ht, h.ok t (List.mem_of_getElem? ht)⟩
 match hG : xY D with
 | [] =>
  have : fixC D P Q = D := by unfold fixC; rw [hG]
  rw [this, h.none_ hG]
 | [x] =>
  obtain ⟨i, rfl, hil, hin⟩ := idx x (by rw [hG]; simp)
  obtain ⟨t, ht, hto⟩ := hTl hil
  have hm := h.one_ hG ht
  have hF : fixC D P Q = if P.isSome = true then D.set i (some (YV D P)) else D.set i (some (xadd (powN (expN i) 254) (sec []) (ZT D Q))) := by unfold fixC; rw [hG]; simp only [Int.toNat_natCast]
  rw [hF, hm]
  rw [hG] at hgl
  have hl1 : xA D = 1 := by simpa using hgl.symm
  cases P with
  | some p =>
   rw [if_pos (show (some p).isSome = true from rfl)]
   congr 2
   have hp := h.p p rfl
   have hb : ∀ b, (p b).toNat = (sumP D b).toNat ^^^ gmN 1 (t b).toNat := fun b => by
    rw [hp, hm]
    exact ZE (co := fun _ => 1) hil hin b
   have hpo : yD p := by rw [hp]; exact vH (fun _ => by omega) (kR h.ok) _
   refine NN (QP (by omega) sP hpo) hto fun b => ?_
   show (xadd 1 (sumP D) p b).toNat = _
   rw [zBp hto (by omega) sP hb b, gM (vN (hto b)).2]
  | none =>
   rw [if_neg (by simp)]
   congr 2
   cases Q with
   | none => exact absurd hlost (by rw [hl1]; decide)
   | some q =>
    have hq := h.q q rfl
    have hb : ∀ b, (q b).toNat = (sumQ D b).toNat ^^^ gmN (expN i) (t b).toNat := fun b => by
     rw [hq, hm]
     exact ZE (co := expN) hil hin b
    have hqo : yD q := by rw [hq]; exact vH vU (kR h.ok) _
    refine NN (QP (gE (vU _)) kO (QP (by omega) sQ hqo)) hto fun b => ?_
    rw [q7]
    show 0 ^^^ gmN _ (xadd 1 (sumQ D) q b).toNat = _
    rw [zBp hto (vU _) sQ hb b, Nat.zero_xor, zGa (zGo (by have := h.len; omega)) (vU _) (vN (hto b)).2]
 | [x, y] =>
  obtain ⟨i, rfl, hil, hin⟩ := idx x (by rw [hG]; simp)
  obtain ⟨j, rfl, hjl, hjn⟩ := idx y (by rw [hG]; simp)
  have hij : i ≠ j := by
   have hs := jP D D.length
   have hs : (xY D).Pairwise (· < ·) := hs
   rw [hG] at hs
   have : (i : Int) < (j : Int) := by simpa using hs
   omega
  obtain ⟨t, ht, hto⟩ := hTl hil
  obtain ⟨u, hu, huo⟩ := hTl hjl
  have hm := h.two_ hG ht hu
  have hF : fixC D P Q = (D.set i (some (secX i j (YV D P) (ZT D Q)))).set j (some (secY i j (YV D P) (ZT D Q))) := by unfold fixC; rw [hG]; simp only [Int.toNat_natCast]
  rw [hF, hm]
  rw [hG] at hgl
  have hl2 : xA D = 2 := by simpa using hgl.symm
  cases P with
  | none =>
   rw [hl2] at hlost
   cases Q with
   | none => exact absurd hlost (by show ¬ 2 + 2 ≤ 2; decide)
   | some v => exact absurd hlost (by show ¬ 2 + 1 ≤ 2; decide)
  | some p =>
  cases Q with
  | none =>
   rw [hl2] at hlost
   exact absurd hlost (by show ¬ 2 + 1 ≤ 2; decide)
  | some q =>
   have hp := h.p p rfl
   have hq := h.q q rfl
   have hjn' : (D.set i (some t))[j]? = some none := by rw [List.getElem?_set_ne hij]; exact hjn
   have hbp : ∀ b, (xadd 1 (sumP D) p b).toNat = (t b).toNat ^^^ (u b).toNat := fun b => by
    have e : (p b).toNat = (sumP D b).toNat ^^^ ((t b).toNat ^^^ (u b).toNat) := by
     rw [hp, hm]
     have e1 := ZE (co := fun _ => 1) (D := D.set i (some t)) (x := u) (by simpa using hjl) hjn' b
     have e2 := ZE (co := fun _ => 1) (x := t) hil hin b
     show (sumI (fun _ => 1) _ _ b).toNat = _
     rw [e1, e2, gM (vN (huo b)).2, gM (vN (hto b)).2, Nat.xor_assoc]
     rfl
    rw [q7, e, gM (xQ (vN (sP b)).2 (xQ (vN (hto b)).2 (vN (huo b)).2)), NI]
   have hbq : ∀ b, (xadd 1 (sumQ D) q b).toNat = gmN (expN i) (t b).toNat ^^^ gmN (expN j) (u b).toNat := fun b => by
    have e : (q b).toNat = (sumQ D b).toNat ^^^ (gmN (expN i) (t b).toNat ^^^ gmN (expN j) (u b).toNat) := by
     rw [hq, hm]
     have e1 := ZE (co := expN) (D := D.set i (some t)) (x := u) (by simpa using hjl) hjn' b
     have e2 := ZE (co := expN) (x := t) hil hin b
     show (sumI expN _ _ b).toNat = _
     rw [e1, e2, Nat.xor_assoc]
     rfl
    rw [q7, e, gM (xQ (vN (sQ b)).2 (xQ (xK (vU _)) (xK (vU _)))), NI]
   have h30 : i < 30 ∧ j < 30 := by have := h.len; omega
   have hx : secX i j (YV D (some p)) (ZT D (some q)) = t := by
    refine NN (zEm _ _ _ _) hto fun b => ?_
    have := (zKz h30.1 h30.2 hij (vN (hto b)).2 (vN (huo b)).2).1
    show ((solX i j (xadd 1 (sumP D) p b).toNat (xadd 1 (sumQ D) q b).toNat : Nat) : Int).toNat = _
    rw [hbp, hbq, Int.toNat_natCast]
    exact this
   have hy : secY i j (YV D (some p)) (ZT D (some q)) = u := by
    refine NN (zEl _ _ _ _) huo fun b => ?_
    have := (zKz h30.1 h30.2 hij (vN (hto b)).2 (vN (huo b)).2).2
    show ((solY i j (xadd 1 (sumP D) p b).toNat (xadd 1 (sumQ D) q b).toNat : Nat) : Int).toNat = _
    rw [hbp, hbq, Int.toNat_natCast]
    exact this
   rw [hx, hy]
 | a :: b :: c :: l => rw [hG] at hgl; simp at hgl; omega
theorem TrueRow.rowR {T : List Sec} {Cs : List (Option Sec)} (h : TrueRow T (rowD Cs) (ZS Cs) (ZR Cs)) (h2 : 2 ≤ Cs.length) (hl : Cs.length ≤ 32) (hlost : xA Cs ≤ 2) : rowR Cs = T ++ [sumP (T.map some), sumQ (T.map some)] := by
 have hs := ME h2
 have hlT : T.length ≤ 30 := by rw [h.len]; unfold rowD; rw [List.length_take]; omega
 have hf := h.fix hlT (by omega)
 unfold Go.Proofs.rowR recP recQ
 rw [hf]
 have e1 : (T.map some).map (fun C => C.getD (sec [])) = T := by rw [List.map_map]; exact List.map_id _
 rw [e1]
 congr 2
 ·cases hP : ZS Cs with
  | none => rfl
  | some f => exact h.p f hP
 ·congr 1
  cases hQ : ZR Cs with
  | none => rfl
  | some f => exact h.q f hQ
def xR (s : SS) (i : Int) (a : Int) : Option Sec := wF (s.ds.getD i.toNat dsk0) a
theorem VN {g : Geo} {s : SS} {st off : Int} {k : Nat} (hk : k < g.d.toNat) : (yU g s st off)[k]? = some (xR s (plcP g st off (k : Int)).dk (plcP g st off (k : Int)).at_) := N8 hk
def xN (s : SS) (i : Int) : Bool := (s.ds.getD i.toNat dsk0).dead
structure SsOk (g : Geo) (s : SS) : Prop where
 geo : GeoOk g
 num : (s.ds.length : Int) = g.d
 len : ∀ D ∈ s.ds, (D.secs.length : Int) = g.c * g.s
 ok : ∀ D ∈ s.ds, jN D
theorem SsOk.get {g : Geo} {s : SS} (h : SsOk g s) {i : Int} (h0 : 0 ≤ i) (h1 : i < g.d) : s.ds.getD i.toNat dsk0 ∈ s.ds := by
 have := h.num
 rw [List.getD_eq_getElem?_getD, List.getElem?_eq_getElem (by omega)]
 exact List.getElem_mem _
theorem OZ {s : SS} {i a : Int} (h : xN s i = true) : xR s i a = none := by
 unfold xR wF
 unfold xN at h
 rw [if_pos h]
theorem qJ {α : Type} {l : List α} {i j : Nat} (hi : i < l.length) (a d : α) : (l.set i a).getD j d = if i = j then a else l.getD j d := by
 by_cases h : i = j
 ·subst h; rw [X5 hi, if_pos rfl]
 ·rw [getD_set_ne h, if_neg h]
theorem zH4 {D : Dsk} (hd : D.dead = false) {at_ : Int} (h : 0 ≤ at_ ∧ at_.toNat < D.secs.length) {c : Cel} (hs : c.sum = sumS at_ c.data) {a : Int} (ha : 0 ≤ a) : wF { D with secs := D.secs.set at_.toNat ⟨c, true⟩ } a = if a = at_ then some c.data else wF D a := by
 show (if D.dead = true then none else if ((D.secs.set at_.toNat ⟨c, true⟩).getD a.toNat sct0).good = false then none else if ((D.secs.set at_.toNat ⟨c, true⟩).getD a.toNat sct0).cel.sum = sumS a ((D.secs.set at_.toNat ⟨c, true⟩).getD a.toNat sct0).cel.data then some ((D.secs.set at_.toNat ⟨c, true⟩).getD a.toNat sct0).cel.data else none) = _
 have hn : ¬ D.dead = true := by rw [hd]; decide
 rw [if_neg hn, qJ h.2]
 by_cases e : a = at_
 ·subst e
  rw [if_pos rfl, if_pos rfl, if_neg (show ¬ (true = false) by decide), if_pos hs]
 ·rw [if_neg (show ¬ at_.toNat = a.toNat by omega), if_neg e]
  unfold wF
  rw [if_neg hn]
theorem LQ {g : Geo} {s : SS} (h : SsOk g s) {x : PutS} (hx : LV g x) (hl : Lit0 s.pw) (hal : xN s x.plc.dk = false) {ep : Int} (hep : (s.ds.getD x.plc.dk.toNat dsk0).key ≤ ep) (hc : yD x.cel.data) (hs : x.cel.sum = sumS x.plc.at_ x.cel.data) :
  (xI s x ep).1 = 0 ∧ SsOk g (xI s x ep).2 ∧ (xI s x ep).2.pw = (yW s.pw).2 ∧ (∀ i, xN (xI s x ep).2 i = xN s i) ∧ (∀ i : Nat, ((xI s x ep).2.ds.getD i dsk0).key = (s.ds.getD i dsk0).key) ∧
  ∀ i a, 0 ≤ i → 0 ≤ a → xR (xI s x ep).2 i a = if i = x.plc.dk ∧ a = x.plc.at_ then some x.cel.data else xR s i a := by
 obtain ⟨⟨d0, d1⟩, ⟨a0, a1⟩⟩ := hx
 have hn := h.num
 have hmem := h.get d0 d1
 unfold xN at hal
 have hw : qG s.pw (s.ds.getD x.plc.dk.toNat dsk0) x.plc.at_ x.cel ep = ((1, 0), (yW s.pw).2, { (s.ds.getD x.plc.dk.toNat dsk0) with secs := (s.ds.getD x.plc.dk.toNat dsk0).secs.set x.plc.at_.toNat ⟨x.cel, true⟩ }) := by
  unfold qG
  rw [if_neg (by simp [hl.1]), if_neg (by rw [hal]; decide), if_neg (by omega), if_neg (by simp [(vF hl).1])]
 have ha : xI s x ep = (0, ⟨s.ds.set x.plc.dk.toNat { (s.ds.getD x.plc.dk.toNat dsk0) with secs := (s.ds.getD x.plc.dk.toNat dsk0).secs.set x.plc.at_.toNat ⟨x.cel, true⟩ }, (yW s.pw).2⟩) := by
  unfold xI
  rw [hw]
 have hlt : x.plc.dk.toNat < s.ds.length := by omega
 have hslen := h.len _ hmem
 have hok := h.ok _ hmem
 rw [ha]
 generalize hD : s.ds.getD x.plc.dk.toNat dsk0 = D at *
 refine ⟨rfl, ⟨h.geo, by simpa using hn, fun E hE => ?_, fun E hE => ?_⟩, rfl, fun i => ?_, fun i => ?_, fun i a hi hia => ?_⟩
 ·rcases List.mem_or_eq_of_mem_set hE with hE | rfl
  ·exact h.len E hE
  ·simpa using hslen
 ·rcases List.mem_or_eq_of_mem_set hE with hE | rfl
  ·exact h.ok E hE
  ·refine ⟨fun y hy => ?_, hok.2⟩
   rcases List.mem_or_eq_of_mem_set hy with hy | rfl
   ·exact hok.1 y hy
   ·exact ⟨hc, by show 0 ≤ x.cel.sum; rw [hs]; exact (QW _ _).1, by show x.cel.sum ≤ _; rw [hs]; exact (QW _ _).2⟩
 ·unfold xN
  simp only
  rw [qJ hlt]
  by_cases e : x.plc.dk.toNat = i.toNat
  ·rw [if_pos e, ← e, hD]
  ·rw [if_neg e]
 ·simp only
  rw [qJ hlt]
  by_cases e : x.plc.dk.toNat = i
  ·rw [if_pos e, ← e, hD]
  ·rw [if_neg e]
 ·unfold xR
  simp only
  rw [qJ hlt]
  by_cases e : x.plc.dk.toNat = i.toNat
  ·have e' : i = x.plc.dk := by omega
   rw [if_pos e, ← e, hD]
   refine (zH4 hal ⟨a0, by omega⟩ hs hia).trans ?_
   by_cases e2 : a = x.plc.at_
   ·rw [if_pos e2, if_pos ⟨e', e2⟩]
   ·rw [if_neg e2, if_neg (fun h => e2 h.2)]
  ·rw [if_neg e, if_neg (fun h => e (by rw [h.1]))]
theorem QC {g : Geo} (hg : GeoOk g) {st off st2 off2 : Int} {k k2 : Int} (hst : 0 ≤ st ∧ st < g.s) (hof : 0 ≤ off ∧ off < g.c) (hst2 : 0 ≤ st2 ∧ st2 < g.s) (hof2 : 0 ≤ off2 ∧ off2 < g.c) (hk : 0 ≤ k ∧ k < g.d) (hk2 : 0 ≤ k2 ∧ k2 < g.d)
  (h1 : (plcP g st off k).dk = (plcP g st2 off2 k2).dk) (h2 : (plcP g st off k).at_ = (plcP g st2 off2 k2).at_) : st = st2 ∧ off = off2 ∧ k = k2 := by
 have hc := hg.c
 have hd := hg.d
 have h2 : st * g.c + off = st2 * g.c + off2 := h2
 have e1 : (st * g.c + off) / g.c = st := by rw [Int.add_comm, Int.add_mul_ediv_right _ _ (by omega), Int.ediv_eq_zero_of_lt hof.1 hof.2, Int.zero_add]
 have e2 : (st2 * g.c + off2) / g.c = st2 := by rw [Int.add_comm, Int.add_mul_ediv_right _ _ (by omega), Int.ediv_eq_zero_of_lt hof2.1 hof2.2, Int.zero_add]
 have hs : st = st2 := by rw [← e1, ← e2, h2]
 subst hs
 refine ⟨rfl, by omega, ?_⟩
 have h1 : (qK g st + k) % g.d = (qK g st + k2) % g.d := h1
 have hf := GM hg st
 have := Int.emod_emod_of_dvd (qK g st + k) (Int.dvd_refl g.d)
 have h3 : ((qK g st + k) - (qK g st + k2)) % g.d = 0 := Int.emod_eq_emod_iff_emod_sub_eq_zero.1 h1
 have h4 : (k - k2) % g.d = 0 := by rw [← h3]; congr 1; omega
 have h5 := Int.emod_emod_of_dvd (k - k2) (Int.dvd_refl g.d)
 obtain ⟨c, hcc⟩ := Int.dvd_of_emod_eq_zero h4
 have : c = 0 := by
  refine Classical.byContradiction fun hne => ?_
  rcases (show c ≤ -1 ∨ 1 ≤ c by omega) with h | h
  ·have := Int.mul_le_mul_of_nonneg_left h (show 0 ≤ g.d by omega)
   omega
  ·have := Int.mul_le_mul_of_nonneg_left h (show 0 ≤ g.d by omega)
   omega
 rw [this] at hcc
 omega
theorem Y3 {g : Geo} {st off : Int} (hst : 0 ≤ st ∧ st < g.s) (hof : 0 ≤ off ∧ off < g.c) {row : List Sec} (hrok : ∀ f ∈ row, yD f) {s0 : SS} {ep : Int} : ∀ (ks : List Int) (s : SS), (∀ k ∈ ks, 0 ≤ k ∧ k < g.d) → SsOk g s → Lit0 s.pw → (∀ i, xN s i = xN s0 i) → (∀ i : Nat, (s.ds.getD i dsk0).key ≤ ep) →
  ∃ s', qL ep (uK g s0 st off row ks) s = (0, s') ∧ SsOk g s' ∧ Lit0 s'.pw ∧ (∀ i, xN s' i = xN s0 i) ∧ (∀ i : Nat, (s'.ds.getD i dsk0).key = (s.ds.getD i dsk0).key) ∧
   (∀ i a, 0 ≤ i → 0 ≤ a → (∀ k ∈ ks, ¬ (i = (plcP g st off k).dk ∧ a = (plcP g st off k).at_)) → xR s' i a = xR s i a) ∧
   (∀ k ∈ ks, xN s0 (plcP g st off k).dk = false → xR s' (plcP g st off k).dk (plcP g st off k).at_ = some (row.getD k.toNat (sec [])))
 | [], s, _, hs, hl, hd, _ => ⟨s, rfl, hs, hl, hd, fun _ => rfl, fun _ _ _ _ _ => rfl, by simp⟩
 | k :: ks, s, hks, hs, hl, hd, hep => by
  have hk := hks k (by simp)
  obtain ⟨pk1, pk2⟩ := qC hs.geo hst hof k
  have hrk : yD (row.getD k.toNat (sec [])) := by
   rw [List.getD_eq_getElem?_getD]
   cases hx : row[k.toNat]? with
   | none => exact kO
   | some f => exact hrok f (List.mem_of_getElem? hx)
  by_cases hdk : xN s0 (plcP g st off k).dk = true
  ·have e : uK g s0 st off row (k :: ks) = uK g s0 st off row ks := by
    unfold uK
    rw [List.filterMap_cons]
    have : HI g s0 st off row k = none := by unfold HI; unfold xN at hdk; rw [if_pos hdk]
    rw [this]
   obtain ⟨s', h1, h2, h3, h4, h5, h6, h7⟩ := Y3 (s0 := s0) hst hof hrok ks s (fun k hk => hks k (by simp [hk])) hs hl hd hep
   refine ⟨s', by rw [e]; exact h1, h2, h3, h4, h5, fun i a hi ha hn => h6 i a hi ha fun k hk => hn k (by simp [hk]), fun k' hk' hal => ?_⟩
   rcases List.mem_cons.1 hk' with rfl | hk'
   ·rw [hdk] at hal; cases hal
   ·exact h7 k' hk' hal
  ·have hdk : xN s0 (plcP g st off k).dk = false := by simpa using hdk
   have e : uK g s0 st off row (k :: ks) = ⟨plcP g st off k, ⟨row.getD k.toNat (sec []), sumS (plcP g st off k).at_ (row.getD k.toNat (sec []))⟩⟩ :: uK g s0 st off row ks := by
    unfold uK
    rw [List.filterMap_cons]
    have : HI g s0 st off row k = some ⟨plcP g st off k, ⟨row.getD k.toNat (sec []), sumS (plcP g st off k).at_ (row.getD k.toNat (sec []))⟩⟩ := by unfold HI; unfold xN at hdk; rw [if_neg (by rw [hdk]; decide)]
    rw [this]
   obtain ⟨a1, a2, a3, a4, a5, a6⟩ := LQ hs (x := ⟨plcP g st off k, ⟨row.getD k.toNat (sec []), sumS (plcP g st off k).at_ (row.getD k.toNat (sec []))⟩⟩) ⟨pk1, pk2⟩ hl (by rw [hd]; exact hdk) (hep _) hrk rfl
   rw [e]
   have hst' : qL ep (⟨plcP g st off k, ⟨row.getD k.toNat (sec []), sumS (plcP g st off k).at_ (row.getD k.toNat (sec []))⟩⟩ :: uK g s0 st off row ks) s = qL ep (uK g s0 st off row ks) (xI s ⟨plcP g st off k, ⟨row.getD k.toNat (sec []), sumS (plcP g st off k).at_ (row.getD k.toNat (sec []))⟩⟩ ep).2 := by
    show (if _ ∧ _ then _ else _) = _
    rw [if_neg (by rw [a1]; simp)]
   rw [hst']
   generalize xI s ⟨plcP g st off k, ⟨row.getD k.toNat (sec []), sumS (plcP g st off k).at_ (row.getD k.toNat (sec []))⟩⟩ ep = r at *
   obtain ⟨s', h1, h2, h3, h4, h5, h6, h7⟩ := Y3 (s0 := s0) hst hof hrok ks r.2 (fun k hk => hks k (by simp [hk])) a2 (by rw [a3]; exact (vF hl).2) (fun i => by rw [a4, hd]) (fun i => by rw [a5]; exact hep i)
   refine ⟨s', h1, h2, h3, h4, fun i => by rw [h5, a5], fun i a hi ha hn => ?_, fun k' hk' hal => ?_⟩
   ·rw [h6 i a hi ha fun k hk => hn k (by simp [hk]), a6 i a hi ha, if_neg (hn k (by simp))]
   ·by_cases hmem : k' ∈ ks
    ·exact h7 k' hmem hal
    ·have hkk : k' = k := by
      rcases List.mem_cons.1 hk' with h | h
      ·exact h
      ·exact absurd h hmem
     subst hkk
     rw [h6 _ _ pk1.1 pk2.1 fun k2 hk2 he => ?_, a6 _ _ pk1.1 pk2.1, if_pos ⟨rfl, rfl⟩]
     have := QC hs.geo hst hof hst hof hk (hks k2 (by simp [hk2])) he.1 he.2
     exact hmem (by rw [this.2.2]; exact hk2)
def lbaP (g : Geo) (st off k : Int) : Int := (st * (g.d - 2) + k) * g.c + off
def rowT (g : Geo) (now : Int → Sec) (st off : Int) : List Sec := (List.range (g.d - 2).toNat).map fun (k : Nat) => now (lbaP g st off (k : Int))
def vT (T : List Sec) : List Sec := T ++ [sumP (T.map some), sumQ (T.map some)]
theorem xW (g : Geo) (now : Int → Sec) (st off : Int) : (rowT g now st off).length = (g.d - 2).toNat := by simp [rowT]
theorem VJ {g : Geo} {now : Int → Sec} {st off : Int} {k : Nat} (hk : k < (g.d - 2).toNat) : (rowT g now st off)[k]? = some (now (lbaP g st off (k : Int))) := by
 unfold rowT
 rw [List.getElem?_map, List.getElem?_range hk]; rfl
def Inv (g : Geo) (s : SS) (now : Int → Sec) : Prop := ∀ st off : Int, 0 ≤ st ∧ st < g.s → 0 ≤ off ∧ off < g.c → ∀ k : Nat, k < g.d.toNat → ∀ f, xR s (plcP g st off (k : Int)).dk (plcP g st off (k : Int)).at_ = some f → (vT (rowT g now st off))[k]? = some f
theorem Inv.row {g : Geo} {s : SS} {now : Int → Sec} (hg : GeoOk g) (h : Inv g s now) (hn : ∀ l, yD (now l)) {st off : Int} (hst : 0 ≤ st ∧ st < g.s) (hof : 0 ≤ off ∧ off < g.c) : TrueRow (rowT g now st off) (rowD (yU g s st off)) (ZS (yU g s st off)) (ZR (yU g s st off)) := by
 have hd := hg.d
 have hl := uU g s st off
 have hlT := xW g now st off
 have full : ∀ (k : Nat) f, (yU g s st off)[k]? = some (some f) → (vT (rowT g now st off))[k]? = some f := by
  intro k f hk
  have hlt : k < g.d.toNat := by rw [← hl]; exact (List.getElem?_eq_some_iff.1 hk).1
  rw [VN hlt] at hk
  exact h st off hst hof k hlt f (Option.some.inj hk)
 refine ⟨?_, ?_, ?_, ?_, ?_⟩
 ·unfold rowD; rw [List.length_take, hl, hlT]; omega
 ·intro k f hk
  unfold rowD at hk
  rw [List.getElem?_take] at hk
  split at hk
  ·rename_i hkl
   have := full k f hk
   unfold vT at this
   rwa [List.getElem?_append_left (by omega)] at this
  ·cases hk
 ·intro f hf
  unfold rowT at hf
  obtain ⟨k, _, rfl⟩ := List.mem_map.1 hf
  exact hn _
 ·intro f hf
  unfold ZS at hf
  rw [List.getD_eq_getElem?_getD] at hf
  have : (yU g s st off)[(yU g s st off).length - 2]? = some (some f) := by
   cases hx : (yU g s st off)[(yU g s st off).length - 2]? with
   | none => rw [hx] at hf; cases hf
   | some C => rw [hx] at hf; exact congrArg some hf
  have := full _ f this
  unfold vT at this
  rw [List.getElem?_append_right (by omega), show (yU g s st off).length - 2 - (rowT g now st off).length = 0 by omega] at this
  exact (Option.some.inj this).symm
 ·intro f hf
  unfold ZR at hf
  rw [List.getD_eq_getElem?_getD] at hf
  have : (yU g s st off)[(yU g s st off).length - 1]? = some (some f) := by
   cases hx : (yU g s st off)[(yU g s st off).length - 1]? with
   | none => rw [hx] at hf; cases hf
   | some C => rw [hx] at hf; exact congrArg some hf
  have := full _ f this
  unfold vT at this
  rw [List.getElem?_append_right (by omega), show (yU g s st off).length - 1 - (rowT g now st off).length = 1 by omega] at this
  exact (Option.some.inj this).symm
theorem Inv.rowR {g : Geo} {s : SS} {now : Int → Sec} (hg : GeoOk g) (h : Inv g s now) (hn : ∀ l, yD (now l)) {st off : Int} (hst : 0 ≤ st ∧ st < g.s) (hof : 0 ≤ off ∧ off < g.c) (hl : xA (yU g s st off) ≤ 2) : rowR (yU g s st off) = vT (rowT g now st off) := by
 have hd := hg.d
 have hl' := uU g s st off
 exact (h.row hg hn hst hof).rowR (by omega) (by omega) hl
theorem GI {g : Geo} (hg : GeoOk g) (lba : Int) : lbaP g (yT g lba).1 (yT g lba).2.2 (yT g lba).2.1 = lba := by
 have hd := hg.d
 have hc := hg.c
 unfold lbaP yT
 simp only
 have h1 : lba / ((g.d - 2) * g.c) = lba / g.c / (g.d - 2) := by rw [Int.mul_comm, Int.ediv_ediv_of_nonneg (by omega)]
 rw [h1]
 have h2 := Int.mul_ediv_add_emod (lba / g.c) (g.d - 2)
 have h3 := Int.mul_ediv_add_emod lba g.c
 rw [Int.mul_comm (lba / g.c / (g.d - 2)), h2, Int.mul_comm (lba / g.c), h3]
theorem XQ {g : Geo} (hg : GeoOk g) {st off k : Int} (hst : 0 ≤ st) (hof : 0 ≤ off ∧ off < g.c) (hk : 0 ≤ k ∧ k < g.d - 2) : yT g (lbaP g st off k) = (st, k, off) := by
 have hd := hg.d
 have hc := hg.c
 unfold lbaP yT
 have e1 : ((st * (g.d - 2) + k) * g.c + off) / g.c = st * (g.d - 2) + k := by rw [Int.add_comm, Int.add_mul_ediv_right _ _ (by omega), Int.ediv_eq_zero_of_lt hof.1 hof.2, Int.zero_add]
 have e2 : (st * (g.d - 2) + k) / (g.d - 2) = st := by rw [Int.add_comm, Int.add_mul_ediv_right _ _ (by omega), Int.ediv_eq_zero_of_lt hk.1 hk.2, Int.zero_add]
 have e3 : (st * (g.d - 2) + k) % (g.d - 2) = k := by rw [Int.add_comm, Int.add_mul_emod_self_right, Int.emod_eq_of_lt hk.1 hk.2]
 have e4 : ((st * (g.d - 2) + k) * g.c + off) % g.c = off := by rw [Int.add_comm, Int.add_mul_emod_self_right, Int.emod_eq_of_lt hof.1 hof.2]
 have h1 : ∀ l : Int, l / ((g.d - 2) * g.c) = l / g.c / (g.d - 2) := fun l => by rw [Int.mul_comm, Int.ediv_ediv_of_nonneg (by omega)]
 rw [h1, e1, e2, e3, e4]
theorem Inv.read {g : Geo} {s : SS} {now : Int → Sec} (hg : GeoOk g) (h : Inv g s now) (hn : ∀ l, yD (now l)) (hon : s.pw.on = true) {lba : Int} (h0 : 0 ≤ lba) (h1 : lba < (g.d - 2) * g.c * g.s) :
  TR g s lba = (now lba, 0) ∨ (TR g s lba = (sec [], 8) ∧ ¬ xA (yU g s (yT g lba).1 (yT g lba).2.2) ≤ 2 ∧ xR s (plcP g (yT g lba).1 (yT g lba).2.2 (yT g lba).2.1).dk (plcP g (yT g lba).1 (yT g lba).2.2 (yT g lba).2.1).at_ = none) := by
 obtain ⟨pst, pco, pof⟩ := vR hg h0 h1
 have hd := hg.d
 have hls := GI hg lba
 unfold TR
 generalize yT g lba = x at *
 simp only
 rw [if_neg (by rw [hon]; decide)]
 have hk : x.2.1.toNat < g.d.toNat := by omega
 have e : ((x.2.1.toNat : Nat) : Int) = x.2.1 := by omega
 have hC := VN (g := g) (s := s) (st := x.1) (off := x.2.2) hk
 rw [e] at hC
 have hg' : (yU g s x.1 x.2.2).getD x.2.1.toNat none = xR s (plcP g x.1 x.2.2 x.2.1).dk (plcP g x.1 x.2.2 x.2.1).at_ := by rw [List.getD_eq_getElem?_getD, hC]; rfl
 have hT : (vT (rowT g now x.1 x.2.2))[x.2.1.toNat]? = some (now lba) := by
  unfold vT
  rw [List.getElem?_append_left (by rw [xW]; omega), VJ (by omega), e, hls]
 rw [hg']
 cases hv : xR s (plcP g x.1 x.2.2 x.2.1).dk (plcP g x.1 x.2.2 x.2.1).at_ with
 | some f =>
  have := h x.1 x.2.2 pst pof x.2.1.toNat hk f (by rw [e]; exact hv)
  rw [hT] at this
  left
  rw [Option.some.inj this]
 | none =>
  by_cases hl : xA (yU g s x.1 x.2.2) ≤ 2
  ·left
   simp only
   rw [if_pos hl, h.rowR hg hn pst pof hl, List.getD_eq_getElem?_getD, hT]; rfl
  ·right
   simp only
   rw [if_neg hl]
   exact ⟨rfl, hl, by trivial⟩
def upd (now : Int → Sec) (lba : Int) (f : Sec) : Int → Sec := fun l => if l = lba then f else now l
theorem wB {g : Geo} (hg : GeoOk g) {now : Int → Sec} {st off k : Int} (hst : 0 ≤ st) (hof : 0 ≤ off ∧ off < g.c) (hk : 0 ≤ k ∧ k < g.d - 2) (f : Sec) : rowT g (upd now (lbaP g st off k) f) st off = (rowT g now st off).set k.toNat f := by
 apply List.ext_getElem?
 intro i
 by_cases hi : i < (g.d - 2).toNat
 ·rw [VJ hi]
  unfold upd
  by_cases e : k.toNat = i
  ·subst e
   rw [List.getElem?_set_self (by rw [xW]; exact hi), if_pos (by rw [show ((k.toNat : Nat) : Int) = k by omega])]
  ·rw [List.getElem?_set_ne e, VJ hi, if_neg]
   intro he
   have h1 := XQ hg hst hof (k := (i : Int)) (by omega)
   have h2 := XQ hg hst hof hk
   rw [he, h2] at h1
   simp only [Prod.mk.injEq, true_and, and_true] at h1
   omega
 ·rw [List.getElem?_eq_none (by rw [xW]; omega), List.getElem?_eq_none (by rw [List.length_set, xW]; omega)]
theorem HG {g : Geo} (hg : GeoOk g) {now : Int → Sec} {st off k st2 off2 : Int} (hst : 0 ≤ st) (hof : 0 ≤ off ∧ off < g.c) (hk : 0 ≤ k ∧ k < g.d - 2) (hst2 : 0 ≤ st2) (hof2 : 0 ≤ off2 ∧ off2 < g.c) (hne : ¬ (st2 = st ∧ off2 = off)) (f : Sec) : rowT g (upd now (lbaP g st off k) f) st2 off2 = rowT g now st2 off2 := by
 apply List.ext_getElem?
 intro i
 by_cases hi : i < (g.d - 2).toNat
 ·rw [VJ hi, VJ hi]
  unfold upd
  rw [if_neg]
  intro he
  have h1 := XQ hg hst2 hof2 (k := (i : Int)) (by omega)
  have h2 := XQ hg hst hof hk
  rw [he, h2] at h1
  simp only [Prod.mk.injEq] at h1
  exact hne ⟨h1.1.symm, h1.2.2.symm⟩
 ·rw [List.getElem?_eq_none (by rw [xW]; omega), List.getElem?_eq_none (by rw [xW]; omega)]
theorem O4 {T : List Sec} {col : Nat} {data : Sec} (h : col < T.length) : rowW (vT T) col data = vT (T.set col data) := by
 have e : ((vT T).set col data).take ((vT T).length - 2) = T.set col data := by
  unfold vT
  rw [List.set_append_left _ _ h]
  have : (T ++ [sumP (T.map some), sumQ (T.map some)]).length - 2 = (T.set col data).length := by simp
  rw [this, List.take_left]
 show ((vT T).set col data).take ((vT T).length - 2) ++ [sumP ((((vT T).set col data).take ((vT T).length - 2)).map some), sumQ ((((vT T).set col data).take ((vT T).length - 2)).map some)] = _
 rw [e]; rfl
theorem zFz (T : List Sec) : (vT T).length = T.length + 2 := by simp [vT]
theorem zBy {T : List Sec} (h : ∀ f ∈ T, yD f) : ∀ f ∈ vT T, yD f := by
 intro f hf
 unfold vT at hf
 rcases List.mem_append.1 hf with hf | hf
 ·exact h f hf
 ·simp only [List.mem_cons, List.not_mem_nil, or_false] at hf
  rcases hf with rfl | rfl
  ·exact vH (fun _ => by omega) (kR h) _
  ·exact vH vU (kR h) _
theorem zEt {g : Geo} {now : Int → Sec} (hn : ∀ l, yD (now l)) (st off : Int) : ∀ f ∈ rowT g now st off, yD f := by
 intro f hf
 unfold rowT at hf
 obtain ⟨k, _, rfl⟩ := List.mem_map.1 hf
 exact hn _
theorem zAz {now : Int → Sec} (hn : ∀ l, yD (now l)) {f : Sec} (hf : yD f) (l : Int) : ∀ i, yD (upd now l f i) := by
 intro i
 unfold upd
 split
 ·exact hf
 ·exact hn i
theorem zBk {g : Geo} (hg : GeoOk g) {s : SS} {st off : Int} (hst : 0 ≤ st ∧ st < g.s) (hof : 0 ≤ off ∧ off < g.c) {row : List Sec} {ks : List Int} : ∀ x ∈ uK g s st off row ks, LV g x := by
 intro x hx
 unfold uK at hx
 obtain ⟨k, _, hk⟩ := List.mem_filterMap.1 hx
 unfold HI at hk
 split at hk
 ·cases hk
 ·cases hk
  exact qC hg hst hof k
structure Written (g : Geo) (s s' : SS) (now : Int → Sec) (lba : Int) (data : Sec) : Prop where
 ss : SsOk g s'
 lit : Lit0 s'.pw
 dead : ∀ i, xN s' i = xN s i
 key : ∀ i : Nat, (s'.ds.getD i dsk0).key = (s.ds.getD i dsk0).key
 inv : Inv g s' (upd now lba data)
 view : ∀ i a, 0 ≤ i → 0 ≤ a → xR s' i a = none → xR s i a = none ∨ xN s i = true
theorem Inv.write {g : Geo} {s : SS} {now : Int → Sec} (hs : SsOk g s) (h : Inv g s now) (hn : ∀ l, yD (now l)) (hl : Lit0 s.pw) {lba : Int} (h0 : 0 ≤ lba) (h1 : lba < (g.d - 2) * g.c * g.s) {data : Sec} (hdat : yD data) {ep : Int} (hep : ∀ i : Nat, (s.ds.getD i dsk0).key ≤ ep)
  (hlost : xA (yU g s (yT g lba).1 (yT g lba).2.2) ≤ 2) :
  (yR g s lba data).2 = 0 ∧ ∃ s', vY g s (yR g s lba data).1 ep = (0, s') ∧ Written g s s' now lba data := by
 have hg := hs.geo
 obtain ⟨pst, pco, pof⟩ := vR hg h0 h1
 have hd := hg.d
 have hls := GI hg lba
 have hrow := h.rowR hg hn pst pof hlost
 have hplan : yR g s lba data = (uK g s (yT g lba).1 (yT g lba).2.2 (rowW (Go.Proofs.rowR (yU g s (yT g lba).1 (yT g lba).2.2)) (yT g lba).2.1.toNat data) [(yT g lba).2.1, g.d - 2, g.d - 1], 0) := by
  unfold yR
  simp only
  rw [if_neg (by rw [hl.1]; decide), if_pos hlost]
 rw [hplan, hrow]
 generalize yT g lba = x at *
 rw [O4 (by rw [xW]; omega), ← wB hg pst.1 pof pco, hls]
 have hok' := zAz hn hdat lba
 have hks : ∀ k ∈ [x.2.1, g.d - 2, g.d - 1], 0 ≤ k ∧ k < g.d := by
  intro k hk
  simp only [List.mem_cons, List.not_mem_nil, or_false] at hk
  rcases hk with rfl | rfl | rfl <;> omega
 obtain ⟨s', a1, a2, a3, a4, a5, a6, a7⟩ := Y3 (s0 := s) (ep := ep) pst pof (zBy (zEt hok' x.1 x.2.2)) [x.2.1, g.d - 2, g.d - 1] s hks hs hl (fun _ => rfl) hep
 refine ⟨rfl, s', ?_, a2, a3, a4, a5, ?_, ?_⟩
 ·unfold vY
  rw [if_pos (zBk hg pst pof)]
  exact a1
 ·intro st off hst hof k hk f hv
  obtain ⟨pk1, pk2⟩ := qC hg hst hof (k : Int)
  by_cases hrow : st = x.1 ∧ off = x.2.2
  ·obtain ⟨rfl, rfl⟩ := hrow
   by_cases hmem : (k : Int) ∈ [x.2.1, g.d - 2, g.d - 1]
   ·cases hdk : xN s (plcP g x.1 x.2.2 (k : Int)).dk with
    | true =>
     rw [OZ (by rw [a4]; exact hdk)] at hv
     cases hv
    | false =>
     have := a7 _ hmem hdk
     rw [hv] at this
     have := Option.some.inj this
     rw [this, Int.toNat_natCast, List.getD_eq_getElem?_getD]
     have hlt : k < (vT (rowT g (upd now lba data) x.1 x.2.2)).length := by rw [zFz, xW]; omega
     rw [List.getElem?_eq_getElem hlt]; rfl
   ·rw [a6 _ _ pk1.1 pk2.1 fun k2 hk2 he => ?_] at hv
    ·have := h x.1 x.2.2 pst pof k hk f hv
     have hne : ¬ (k : Int) = x.2.1 ∧ ¬ (k : Int) = g.d - 2 ∧ ¬ (k : Int) = g.d - 1 := by simpa using hmem
     unfold vT at this ⊢
     rw [List.getElem?_append_left (by rw [xW]; omega)] at this ⊢
     have e := wB hg (now := now) pst.1 pof pco data
     rw [hls] at e
     rw [e, List.getElem?_set_ne (by omega)]
     exact this
    ·have := QC hg hst hof pst pof (by omega) (hks k2 hk2) he.1 he.2
     exact hmem (by rw [this.2.2]; exact hk2)
  ·rw [a6 _ _ pk1.1 pk2.1 fun k2 hk2 he => ?_] at hv
   ·have := h st off hst hof k hk f hv
    have e := HG hg (now := now) pst.1 pof pco hst.1 hof hrow data
    rw [hls] at e
    rw [e]
    exact this
   ·have := QC hg hst hof pst pof (by omega) (hks k2 hk2) he.1 he.2
    exact hrow ⟨this.1, this.2.1⟩
 ·intro i a hi ha hv
  by_cases hex : ∃ k ∈ [x.2.1, g.d - 2, g.d - 1], i = (plcP g x.1 x.2.2 k).dk ∧ a = (plcP g x.1 x.2.2 k).at_
  ·obtain ⟨k, hk, rfl, rfl⟩ := hex
   cases hdk : xN s (plcP g x.1 x.2.2 k).dk with
   | true => exact Or.inr rfl
   | false =>
    have := a7 k hk hdk
    rw [hv] at this
    cases this
  ·rw [a6 i a hi ha fun k hk he => hex ⟨k, hk, he⟩] at hv
   exact Or.inl hv
def newS (g : Geo) (pw : Pow) : SS := ⟨List.replicate g.d.toNat (newD (g.c * g.s).toNat), pw⟩
def now0 : Int → Sec := fun _ => sec []
theorem zFk : ∀ l, yD (now0 l) := fun _ => kO
theorem zEa (g : Nat) : xadd g (sec []) (sec []) = sec [] := by
 funext k
 show (((0 : Int).toNat ^^^ gmN g (0 : Int).toNat : Nat) : Int) = 0
 show ((0 ^^^ gmN g 0 : Nat) : Int) = 0
 rw [zMy]; rfl
theorem QX {co : Nat → Nat} {T : List (Option Sec)} (h : ∀ C ∈ T, C = some (sec [])) : ∀ k, sumI co T k = sec []
 | 0 => rfl
 | k + 1 => by
  rw [TI, QX h k]
  cases hx : T.getD k none with
  | none => rfl
  | some f =>
   have : T.getD k none ∈ T ∨ T.getD k none = none := by
    rw [List.getD_eq_getElem?_getD]
    cases hy : T[k]? with
    | none => exact Or.inr rfl
    | some y => exact Or.inl (List.mem_of_getElem? hy)
   rcases this with h1 | h1
   ·have := h _ h1
    rw [hx] at this
    cases this
    exact zEa _
   ·rw [hx] at h1; cases h1
theorem zGg {g : Geo} {st off : Int} {k : Nat} (hg : GeoOk g) (hk : k < g.d.toNat) : (vT (rowT g now0 st off))[k]? = some (sec []) := by
 have hd := hg.d
 have hz : ∀ C ∈ (rowT g now0 st off).map some, C = some (sec []) := by
  intro C hC
  obtain ⟨f, hf, rfl⟩ := List.mem_map.1 hC
  unfold rowT at hf
  obtain ⟨j, _, rfl⟩ := List.mem_map.1 hf
  rfl
 unfold vT
 have e1 : sumP ((rowT g now0 st off).map some) = sec [] := QX hz _
 have e2 : sumQ ((rowT g now0 st off).map some) = sec [] := QX hz _
 rw [e1, e2]
 by_cases h1 : k < (g.d - 2).toNat
 ·rw [List.getElem?_append_left (by rw [xW]; exact h1), VJ h1]; rfl
 ·rw [List.getElem?_append_right (by rw [xW]; omega), xW]
  rcases (show k - (g.d - 2).toNat = 0 ∨ k - (g.d - 2).toNat = 1 by omega) with e | e <;> rw [e] <;> rfl
theorem N5 {α : Type} {n i : Nat} (a d : α) (h : i < n) : (List.replicate n a).getD i d = a := by
 rw [List.getD_eq_getElem?_getD, List.getElem?_replicate, if_pos h]; rfl
theorem zIu {n i : Nat} (h : i < n) : (nuls n).getD i sct0 = nul (i : Int) := by
 unfold nuls
 rw [List.getD_eq_getElem?_getD, List.getElem?_map, List.getElem?_range h]; rfl
theorem KA {g : Geo} {pw : Pow} (hg : GeoOk g) {i a : Int} (hi : 0 ≤ i ∧ i < g.d) (ha : 0 ≤ a ∧ a < g.c * g.s) : xR (newS g pw) i a = some (sec []) := by
 unfold xR newS
 simp only
 rw [N5 _ _ (by omega)]
 unfold wF newD
 simp only
 rw [zIu (by omega), show ((a.toNat : Nat) : Int) = a by omega]
 unfold nul
 rw [if_neg (by decide), if_neg (show ¬ (true = false) by decide), if_pos rfl]
theorem zFm (g : Geo) (pw : Pow) (i : Int) : xN (newS g pw) i = false := by
 unfold xN newS
 simp only
 by_cases h : i.toNat < g.d.toNat
 ·rw [N5 _ _ h]; rfl
 ·rw [List.getD_eq_getElem?_getD, List.getElem?_replicate, if_neg h]; rfl
theorem zIw (g : Geo) (pw : Pow) (i : Nat) : ((newS g pw).ds.getD i dsk0).key = 0 := by
 unfold newS
 simp only
 by_cases h : i < g.d.toNat
 ·rw [N5 _ _ h]; rfl
 ·rw [List.getD_eq_getElem?_getD, List.getElem?_replicate, if_neg h]; rfl
theorem zMp {g : Geo} (hg : GeoOk g) (pw : Pow) : SsOk g (newS g pw) := by
 have hd := hg.d
 have hsz := hg.size
 refine ⟨hg, by show ((List.replicate _ _).length : Int) = _; rw [List.length_replicate]; omega, fun D hD => ?_, fun D hD => ?_⟩
 ·rw [(List.mem_replicate.1 hD).2]
  show ((nuls _).length : Int) = _
  rw [X1]; omega
 ·rw [(List.mem_replicate.1 hD).2]
  refine ⟨fun x hx => ?_, Int.le_refl 0, (by show (0 : Int) ≤ 4294967295; decide)⟩
  have hx : x ∈ nuls _ := hx
  unfold nuls at hx
  obtain ⟨k, _, rfl⟩ := List.mem_map.1 hx
  exact ⟨kO, (QW _ _).1, (QW _ _).2⟩
theorem zIx {g : Geo} (hg : GeoOk g) (pw : Pow) : Inv g (newS g pw) now0 := by
 intro st off hst hof k hk f hv
 obtain ⟨pk1, pk2⟩ := qC hg hst hof (k : Int)
 rw [KA hg pk1 pk2] at hv
 rw [← Option.some.inj hv]
 exact zGg hg hk
theorem zJ1 {g : Geo} (hg : GeoOk g) {s : SS} {st off : Int} (hst : 0 ≤ st ∧ st < g.s) (hof : 0 ≤ off ∧ off < g.c) (i j : Int) (h : ∀ k : Nat, k < g.d.toNat → xR s (plcP g st off (k : Int)).dk (plcP g st off (k : Int)).at_ = none → (plcP g st off (k : Int)).dk = i ∨ (plcP g st off (k : Int)).dk = j) : xA (yU g s st off) ≤ 2 := by
 have hd := hg.d
 have hl := gL (yU g s st off)
 have idx : ∀ x ∈ xY (yU g s st off), ∃ n : Nat, x = (n : Int) ∧ n < g.d.toNat ∧ ((plcP g st off x).dk = i ∨ (plcP g st off x).dk = j) := fun x hx => by
  obtain ⟨n, h1, h2, h3⟩ := wD (yU g s st off) _ x hx
  rw [uU] at h2
  rw [VN h2] at h3
  exact ⟨n, h1, h2, by rw [h1]; exact h n h2 (Option.some.inj h3)⟩
 have hs := jP (yU g s st off) (yU g s st off).length
 have hs : (xY (yU g s st off)).Pairwise (· < ·) := hs
 match hG : xY (yU g s st off) with
 | [] => rw [hG] at hl; simp at hl; omega
 | [x] => rw [hG] at hl; simp at hl; omega
 | [x, y] => rw [hG] at hl; simp at hl; omega
 | x :: y :: z :: l =>
  exfalso
  rw [hG] at hs idx
  have hxy : x < y ∧ x < z ∧ y < z := by
   simp only [List.pairwise_cons, List.mem_cons] at hs
   exact ⟨hs.1 y (Or.inl rfl), hs.1 z (Or.inr (Or.inl rfl)), hs.2.1 z (Or.inl rfl)⟩
  obtain ⟨n1, e1, l1, d1⟩ := idx x (by simp)
  obtain ⟨n2, e2, l2, d2⟩ := idx y (by simp)
  obtain ⟨n3, e3, l3, d3⟩ := idx z (by simp)
  have ne : ∀ {a b : Int}, 0 ≤ a ∧ a < g.d → 0 ≤ b ∧ b < g.d → a ≠ b → (plcP g st off a).dk ≠ (plcP g st off b).dk := fun {a b} ha hb hab he => hab (QC hg hst hof hst hof ha hb he rfl).2.2
  have n12 := ne (a := x) (b := y) (by omega) (by omega) (by omega)
  have n13 := ne (a := x) (b := z) (by omega) (by omega) (by omega)
  have n23 := ne (a := y) (b := z) (by omega) (by omega) (by omega)
  omega
def putV : List PutS → (Int → Int → Option Sec) → Int → Int → Option Sec
 | [], v => v
 | x :: xs, v => putV xs fun i a => if i = x.plc.dk ∧ a = x.plc.at_ then some x.cel.data else v i a
theorem MA : ∀ (xs : List PutS) {v u : Int → Int → Option Sec} {i a : Int}, v i a = u i a → putV xs v i a = putV xs u i a
 | [], _, _, _, _, h => h
 | x :: xs, v, u, i, a, h => MA xs (by simp only [h])
theorem ZF {p : Pow} (h : Lit0 p) (h0 : 0 ≤ p.steps) (h1 : p.steps < 4611686018427387904) : (yW p).2.steps = p.steps + 1 := by
 unfold yW
 rw [if_pos h.1, if_pos h.2]
 exact zW (by omega) (by omega)
def zCh (g : Geo) (s : SS) (x : PutS) : Prop := LV g x ∧ yD x.cel.data ∧ x.cel.sum = sumS x.plc.at_ x.cel.data ∧ xN s x.plc.dk = false
theorem LP {g : Geo} {ep : Int} : ∀ (xs : List PutS) (s : SS), SsOk g s → Lit0 s.pw → 0 ≤ s.pw.steps → s.pw.steps + xs.length < 4611686018427387904 → (∀ x ∈ xs, zCh g s x) → (∀ i : Nat, (s.ds.getD i dsk0).key ≤ ep) →
  ∃ s', qL ep xs s = (0, s') ∧ SsOk g s' ∧ Lit0 s'.pw ∧ s'.pw.steps = s.pw.steps + xs.length ∧ (∀ i, xN s' i = xN s i) ∧ (∀ i : Nat, (s'.ds.getD i dsk0).key = (s.ds.getD i dsk0).key) ∧
   ∀ i a, 0 ≤ i → 0 ≤ a → xR s' i a = putV xs (xR s) i a
 | [], s, hs, hl, _, _, _, _ => ⟨s, rfl, hs, hl, by simp, fun _ => rfl, fun _ => rfl, fun _ _ _ _ => rfl⟩
 | x :: xs, s, hs, hl, h0, h1, hx, hep => by
  have h1' : s.pw.steps + ((xs.length + 1 : Nat) : Int) < 4611686018427387904 := h1
  obtain ⟨x1, x2, x3, x4⟩ := hx x (by simp)
  obtain ⟨a1, a2, a3, a4, a5, a6⟩ := LQ hs x1 hl x4 (hep _) x2 x3
  have hst : qL ep (x :: xs) s = qL ep xs (xI s x ep).2 := by
   show (if _ ∧ _ then _ else _) = _
   rw [if_neg (by rw [a1]; simp)]
  rw [hst]
  generalize xI s x ep = r at *
  have hsw := ZF hl h0 (by omega)
  obtain ⟨s', b1, b2, b3, b4, b5, b6, b7⟩ := LP xs r.2 a2 (by rw [a3]; exact (vF hl).2) (by rw [a3, hsw]; omega) (by rw [a3, hsw]; omega) (fun y hy => by
   obtain ⟨y1, y2, y3, y4⟩ := hx y (by simp [hy])
   exact ⟨y1, y2, y3, by rw [a4]; exact y4⟩) (fun i => by rw [a5]; exact hep i)
  refine ⟨s', b1, b2, b3, ?_, fun i => by rw [b5, a4], fun i => by rw [b6, a5], fun i a hi ha => ?_⟩
  ·rw [b4, a3, hsw]
   show _ = s.pw.steps + ((xs.length + 1 : Nat) : Int)
   omega
  ·rw [b7 i a hi ha]
   exact MA xs (a6 i a hi ha)
theorem LO {g : Geo} {ep : Int} {xs : List PutS} {s : SS} (hs : SsOk g s) (hl : Lit0 s.pw) (h0 : 0 ≤ s.pw.steps) (h1 : s.pw.steps + xs.length < 4611686018427387904) (hx : ∀ x ∈ xs, zCh g s x) (hep : ∀ i : Nat, (s.ds.getD i dsk0).key ≤ ep) :
  ∃ s', vY g s xs ep = (0, s') ∧ SsOk g s' ∧ Lit0 s'.pw ∧ s'.pw.steps = s.pw.steps + xs.length ∧ (∀ i, xN s' i = xN s i) ∧ (∀ i : Nat, (s'.ds.getD i dsk0).key = (s.ds.getD i dsk0).key) ∧
   ∀ i a, 0 ≤ i → 0 ≤ a → xR s' i a = putV xs (xR s) i a := by
 unfold vY
 rw [if_pos fun x hx' => (hx x hx').1]
 exact LP xs s hs hl h0 h1 hx hep
def zQo (x : PutS) : PutS := ⟨x.plc, ⟨x.cel.data, sumS x.plc.at_ x.cel.data⟩⟩
instance : DecidableEq Plc := fun a b => by
 cases a; cases b
 simp only [Plc.mk.injEq]
 infer_instance
end Go.Proofs
namespace Go.Proofs
open Go.Ev
set_option maxRecDepth 100000
def kE (sp : Option Addr) (sl : Nat) (sc : Nat) (n : Int) (w : World) (R : Value → World → Prop) : Prop :=
 Cb (decide (n < 0)) (False) (Cb (decide (IntKind.wrap .i64 (n - (IntKind.wrap .i64 (((sc : Nat) : Int) - ((sl : Nat) : Int)))) > 0)) (Slc sl sc none (some ((sc : Nat) :
 Int)) none fun l h m => DoV Tryz.prog (Builtin.append_ #[113, 3] 113 #[.slice (slcP 19 l m sp) (h - l) (m - l), .int .i64 (IntKind.wrap .i64 (n - (IntKind.wrap .i64 (((sc
 : Nat) : Int) - ((sl : Nat) : Int)))))]) w fun v w => OpS v fun p l1 c => Slc l1 c none (some ((sl : Nat) : Int)) none fun l2 h1 m1 => Ret [] (R (.slice (slcP 19 l2 m1 p)
 (h1 - l2) (m1 - l2)) w)) (Ret [] (R (.slice sp sl sc) w)))
theorem Z0 {sp : Option Addr} {sl : Nat} {sc : Nat} {n : Int} {w : World} {R : Value → World → Prop} (h : kE sp sl sc n w R) : zB Tryz.prog 249 #[.slice sp sl sc, .int .i64 n] w R := by
 exact zE (args := [.slice sp sl sc, .int .i64 n]) (zR [] [] [] [] []) zD Tryz.func249 rfl rfl (by kernel_rfl) h
def uF (slicesp : Option Addr) (slicesl : Nat) (slicesc : Nat) (w : World) (R : Value → World → Prop) : Prop :=
 yC (σ := Int × Int × Unit) (fun _ s1 w K1 => Cb (decide (s1.2.1 < ((slicesl : Nat) : Int))) (IdxS slicesp slicesl s1.2.1 1 fun b o => LdV b o (At w) fun v => OpS v fun
 p l c => Cb (decide (IntKind.wrap .i64 (s1.1 + ((l : Nat) : Int)) < 0)) (False) (K1 (IntKind.wrap .i64 (s1.1 + ((l : Nat) : Int)), (IntKind.wrap .i64 (s1.2.1 + 1), ()))
 w)) (zB Tryz.prog 249 #[.slice none 0 0, .int .i64 s1.1] w fun v1 w => OpS v1 fun p1 l1 c1 => yC (σ := (Option Addr × Nat × Nat) × Int × Unit) (fun _ s2 w K2 => Cb
 (decide (s2.2.1 < ((slicesl : Nat) : Int))) (IdxS slicesp slicesl s2.2.1 1 fun b1 o1 => LdV b1 o1 (At w) fun v2 => OpS v2 fun p2 l2 c2 => DoV Tryz.prog (Builtin.append_
 #[113, 113] 113 #[.slice s2.1.1 s2.1.2.1 s2.1.2.2, .slice p2 l2 c2]) w fun v3 w => OpS v3 fun p3 l3 c3 => K2 ((p3, l3, c3), (IntKind.wrap .i64 (s2.2.1 + 1), ())) w) (Ret
 [] (R (.slice s2.1.1 s2.1.2.1 s2.1.2.2) w))) ((p1, l1, c1), (0, ())) w)) (0, (0, ())) w
theorem wW {slicesp : Option Addr} {slicesl : Nat} {slicesc : Nat} {w : World} {R : Value → World → Prop} (h : uF slicesp slicesl slicesc w R) : zB Tryz.prog 201 #[.slice slicesp slicesl slicesc] w R := by
 exact zE (args := [.slice slicesp slicesl slicesc]) (zR [(3, [(3, (.int .i64)), (11, (.int .i64))]), (11, [(6, .slice), (27, (.int .i64))])] [] [] [] []) zD Tryz.func201 rfl rfl (by kernel_rfl) h
def UP (x : Int) (w : World) (R : Value → World → Prop) : Prop :=
 Cb (decide (x ≥ 4294967296)) (Req (0 ≤ (32 : Int)) (Cb (decide (ishr .u64 x 32 ≥ 65536)) (Req (0 ≤ (16 : Int)) (Cb (decide (ishr .u64 (ishr .u64 x 32) 16 ≥ 256)) (Req (0 ≤
 (8 : Int)) (OG (ByteArray.mk #[0, 1, 2, 2, 3, 3, 3, 3, 4, 4, 4, 4, 4, 4, 4, 4, 5, 5, 5, 5, 5, 5, 5, 5, 5, 5, 5, 5, 5, 5, 5, 5, 6, 6, 6, 6, 6, 6, 6, 6, 6, 6, 6, 6, 6, 6,
 6, 6, 6, 6, 6, 6, 6, 6, 6, 6, 6, 6, 6, 6, 6, 6, 6, 6, 7, 7, 7, 7, 7, 7, 7, 7, 7, 7, 7, 7, 7, 7, 7, 7, 7, 7, 7, 7, 7, 7, 7, 7, 7, 7, 7, 7, 7, 7, 7, 7, 7, 7, 7, 7, 7, 7, 7,
 7, 7, 7, 7, 7, 7, 7, 7, 7, 7, 7, 7, 7, 7, 7, 7, 7, 7, 7, 7, 7, 7, 7, 7, 7, 8, 8, 8, 8, 8, 8, 8, 8, 8, 8, 8, 8, 8, 8, 8, 8, 8, 8, 8, 8, 8, 8, 8, 8, 8, 8, 8, 8, 8, 8, 8, 8,
 8, 8, 8, 8, 8, 8, 8, 8, 8, 8, 8, 8, 8, 8, 8, 8, 8, 8, 8, 8, 8, 8, 8, 8, 8, 8, 8, 8, 8, 8, 8, 8, 8, 8, 8, 8, 8, 8, 8, 8, 8, 8, 8, 8, 8, 8, 8, 8, 8, 8, 8, 8, 8, 8, 8, 8, 8,
 8, 8, 8, 8, 8, 8, 8, 8, 8, 8, 8, 8, 8, 8, 8, 8, 8, 8, 8, 8, 8, 8, 8, 8, 8, 8, 8, 8, 8, 8, 8, 8, 8, 8, 8, 8, 8, 8, 8]) (IntKind.wrap .u8 (ishr .u64 (ishr .u64 (ishr .u64 x
 32) 16) 8)) fun c => Ret [] (R (.int .i64 (IntKind.wrap .i64 ((IntKind.wrap .i64 ((IntKind.wrap .i64 (32 + 16)) + 8)) + (IntKind.wrap .i64 c)))) w))) (OG (ByteArray.mk
 #[0, 1, 2, 2, 3, 3, 3, 3, 4, 4, 4, 4, 4, 4, 4, 4, 5, 5, 5, 5, 5, 5, 5, 5, 5, 5, 5, 5, 5, 5, 5, 5, 6, 6, 6, 6, 6, 6, 6, 6, 6, 6, 6, 6, 6, 6, 6, 6, 6, 6, 6, 6, 6, 6, 6, 6,
 6, 6, 6, 6, 6, 6, 6, 6, 7, 7, 7, 7, 7, 7, 7, 7, 7, 7, 7, 7, 7, 7, 7, 7, 7, 7, 7, 7, 7, 7, 7, 7, 7, 7, 7, 7, 7, 7, 7, 7, 7, 7, 7, 7, 7, 7, 7, 7, 7, 7, 7, 7, 7, 7, 7, 7, 7,
 7, 7, 7, 7, 7, 7, 7, 7, 7, 7, 7, 7, 7, 7, 7, 8, 8, 8, 8, 8, 8, 8, 8, 8, 8, 8, 8, 8, 8, 8, 8, 8, 8, 8, 8, 8, 8, 8, 8, 8, 8, 8, 8, 8, 8, 8, 8, 8, 8, 8, 8, 8, 8, 8, 8, 8, 8,
 8, 8, 8, 8, 8, 8, 8, 8, 8, 8, 8, 8, 8, 8, 8, 8, 8, 8, 8, 8, 8, 8, 8, 8, 8, 8, 8, 8, 8, 8, 8, 8, 8, 8, 8, 8, 8, 8, 8, 8, 8, 8, 8, 8, 8, 8, 8, 8, 8, 8, 8, 8, 8, 8, 8, 8, 8,
 8, 8, 8, 8, 8, 8, 8, 8, 8, 8, 8, 8, 8, 8, 8, 8, 8, 8, 8, 8, 8, 8, 8, 8, 8, 8, 8, 8, 8]) (IntKind.wrap .u8 (ishr .u64 (ishr .u64 x 32) 16)) fun c1 => Ret [] (R (.int .i64
 (IntKind.wrap .i64 ((IntKind.wrap .i64 (32 + 16)) + (IntKind.wrap .i64 c1)))) w)))) (Cb (decide (ishr .u64 x 32 ≥ 256)) (Req (0 ≤ (8 : Int)) (OG (ByteArray.mk #[0, 1,
 2, 2, 3, 3, 3, 3, 4, 4, 4, 4, 4, 4, 4, 4, 5, 5, 5, 5, 5, 5, 5, 5, 5, 5, 5, 5, 5, 5, 5, 5, 6, 6, 6, 6, 6, 6, 6, 6, 6, 6, 6, 6, 6, 6, 6, 6, 6, 6, 6, 6, 6, 6, 6, 6, 6, 6, 6,
 6, 6, 6, 6, 6, 7, 7, 7, 7, 7, 7, 7, 7, 7, 7, 7, 7, 7, 7, 7, 7, 7, 7, 7, 7, 7, 7, 7, 7, 7, 7, 7, 7, 7, 7, 7, 7, 7, 7, 7, 7, 7, 7, 7, 7, 7, 7, 7, 7, 7, 7, 7, 7, 7, 7, 7, 7,
 7, 7, 7, 7, 7, 7, 7, 7, 7, 7, 7, 7, 8, 8, 8, 8, 8, 8, 8, 8, 8, 8, 8, 8, 8, 8, 8, 8, 8, 8, 8, 8, 8, 8, 8, 8, 8, 8, 8, 8, 8, 8, 8, 8, 8, 8, 8, 8, 8, 8, 8, 8, 8, 8, 8, 8, 8,
 8, 8, 8, 8, 8, 8, 8, 8, 8, 8, 8, 8, 8, 8, 8, 8, 8, 8, 8, 8, 8, 8, 8, 8, 8, 8, 8, 8, 8, 8, 8, 8, 8, 8, 8, 8, 8, 8, 8, 8, 8, 8, 8, 8, 8, 8, 8, 8, 8, 8, 8, 8, 8, 8, 8, 8, 8,
 8, 8, 8, 8, 8, 8, 8, 8, 8, 8, 8, 8, 8, 8, 8, 8, 8, 8, 8, 8, 8, 8, 8, 8, 8, 8]) (IntKind.wrap .u8 (ishr .u64 (ishr .u64 x 32) 8)) fun c2 => Ret [] (R (.int .i64
 (IntKind.wrap .i64 ((IntKind.wrap .i64 (32 + 8)) + (IntKind.wrap .i64 c2)))) w))) (OG (ByteArray.mk #[0, 1, 2, 2, 3, 3, 3, 3, 4, 4, 4, 4, 4, 4, 4, 4, 5, 5, 5, 5, 5, 5,
 5, 5, 5, 5, 5, 5, 5, 5, 5, 5, 6, 6, 6, 6, 6, 6, 6, 6, 6, 6, 6, 6, 6, 6, 6, 6, 6, 6, 6, 6, 6, 6, 6, 6, 6, 6, 6, 6, 6, 6, 6, 6, 7, 7, 7, 7, 7, 7, 7, 7, 7, 7, 7, 7, 7, 7, 7,
 7, 7, 7, 7, 7, 7, 7, 7, 7, 7, 7, 7, 7, 7, 7, 7, 7, 7, 7, 7, 7, 7, 7, 7, 7, 7, 7, 7, 7, 7, 7, 7, 7, 7, 7, 7, 7, 7, 7, 7, 7, 7, 7, 7, 7, 7, 7, 7, 7, 8, 8, 8, 8, 8, 8, 8, 8,
 8, 8, 8, 8, 8, 8, 8, 8, 8, 8, 8, 8, 8, 8, 8, 8, 8, 8, 8, 8, 8, 8, 8, 8, 8, 8, 8, 8, 8, 8, 8, 8, 8, 8, 8, 8, 8, 8, 8, 8, 8, 8, 8, 8, 8, 8, 8, 8, 8, 8, 8, 8, 8, 8, 8, 8, 8,
 8, 8, 8, 8, 8, 8, 8, 8, 8, 8, 8, 8, 8, 8, 8, 8, 8, 8, 8, 8, 8, 8, 8, 8, 8, 8, 8, 8, 8, 8, 8, 8, 8, 8, 8, 8, 8, 8, 8, 8, 8, 8, 8, 8, 8, 8, 8, 8, 8, 8, 8, 8, 8, 8, 8, 8, 8,
 8, 8, 8, 8, 8, 8]) (IntKind.wrap .u8 (ishr .u64 x 32)) fun c3 => Ret [] (R (.int .i64 (IntKind.wrap .i64 (32 + (IntKind.wrap .i64 c3)))) w))))) (Cb (decide (x ≥ 65536))
 (Req (0 ≤ (16 : Int)) (Cb (decide (ishr .u64 x 16 ≥ 256)) (Req (0 ≤ (8 : Int)) (OG (ByteArray.mk #[0, 1, 2, 2, 3, 3, 3, 3, 4, 4, 4, 4, 4, 4, 4, 4, 5, 5, 5, 5, 5, 5, 5,
 5, 5, 5, 5, 5, 5, 5, 5, 5, 6, 6, 6, 6, 6, 6, 6, 6, 6, 6, 6, 6, 6, 6, 6, 6, 6, 6, 6, 6, 6, 6, 6, 6, 6, 6, 6, 6, 6, 6, 6, 6, 7, 7, 7, 7, 7, 7, 7, 7, 7, 7, 7, 7, 7, 7, 7, 7,
 7, 7, 7, 7, 7, 7, 7, 7, 7, 7, 7, 7, 7, 7, 7, 7, 7, 7, 7, 7, 7, 7, 7, 7, 7, 7, 7, 7, 7, 7, 7, 7, 7, 7, 7, 7, 7, 7, 7, 7, 7, 7, 7, 7, 7, 7, 7, 7, 8, 8, 8, 8, 8, 8, 8, 8, 8,
 8, 8, 8, 8, 8, 8, 8, 8, 8, 8, 8, 8, 8, 8, 8, 8, 8, 8, 8, 8, 8, 8, 8, 8, 8, 8, 8, 8, 8, 8, 8, 8, 8, 8, 8, 8, 8, 8, 8, 8, 8, 8, 8, 8, 8, 8, 8, 8, 8, 8, 8, 8, 8, 8, 8, 8, 8,
 8, 8, 8, 8, 8, 8, 8, 8, 8, 8, 8, 8, 8, 8, 8, 8, 8, 8, 8, 8, 8, 8, 8, 8, 8, 8, 8, 8, 8, 8, 8, 8, 8, 8, 8, 8, 8, 8, 8, 8, 8, 8, 8, 8, 8, 8, 8, 8, 8, 8, 8, 8, 8, 8, 8, 8, 8,
 8, 8, 8, 8, 8]) (IntKind.wrap .u8 (ishr .u64 (ishr .u64 x 16) 8)) fun c4 => Ret [] (R (.int .i64 (IntKind.wrap .i64 ((IntKind.wrap .i64 ((IntKind.wrap .i64 (0 + 16)) + 8))
 + (IntKind.wrap .i64 c4)))) w))) (OG (ByteArray.mk #[0, 1, 2, 2, 3, 3, 3, 3, 4, 4, 4, 4, 4, 4, 4, 4, 5, 5, 5, 5, 5, 5, 5, 5, 5, 5, 5, 5, 5, 5, 5, 5, 6, 6, 6, 6, 6, 6,
 6, 6, 6, 6, 6, 6, 6, 6, 6, 6, 6, 6, 6, 6, 6, 6, 6, 6, 6, 6, 6, 6, 6, 6, 6, 6, 7, 7, 7, 7, 7, 7, 7, 7, 7, 7, 7, 7, 7, 7, 7, 7, 7, 7, 7, 7, 7, 7, 7, 7, 7, 7, 7, 7, 7, 7, 7,
 7, 7, 7, 7, 7, 7, 7, 7, 7, 7, 7, 7, 7, 7, 7, 7, 7, 7, 7, 7, 7, 7, 7, 7, 7, 7, 7, 7, 7, 7, 7, 7, 7, 8, 8, 8, 8, 8, 8, 8, 8, 8, 8, 8, 8, 8, 8, 8, 8, 8, 8, 8, 8, 8, 8, 8, 8,
 8, 8, 8, 8, 8, 8, 8, 8, 8, 8, 8, 8, 8, 8, 8, 8, 8, 8, 8, 8, 8, 8, 8, 8, 8, 8, 8, 8, 8, 8, 8, 8, 8, 8, 8, 8, 8, 8, 8, 8, 8, 8, 8, 8, 8, 8, 8, 8, 8, 8, 8, 8, 8, 8, 8, 8, 8,
 8, 8, 8, 8, 8, 8, 8, 8, 8, 8, 8, 8, 8, 8, 8, 8, 8, 8, 8, 8, 8, 8, 8, 8, 8, 8, 8, 8, 8, 8, 8, 8, 8, 8, 8, 8, 8, 8, 8, 8, 8, 8, 8, 8, 8, 8, 8]) (IntKind.wrap .u8 (ishr .u64
 x 16)) fun c5 => Ret [] (R (.int .i64 (IntKind.wrap .i64 ((IntKind.wrap .i64 (0 + 16)) + (IntKind.wrap .i64 c5)))) w)))) (Cb (decide (x ≥ 256)) (Req (0 ≤ (8 : Int)) (OG
 (ByteArray.mk #[0, 1, 2, 2, 3, 3, 3, 3, 4, 4, 4, 4, 4, 4, 4, 4, 5, 5, 5, 5, 5, 5, 5, 5, 5, 5, 5, 5, 5, 5, 5, 5, 6, 6, 6, 6, 6, 6, 6, 6, 6, 6, 6, 6, 6, 6, 6, 6, 6, 6, 6, 6,
 6, 6, 6, 6, 6, 6, 6, 6, 6, 6, 6, 6, 7, 7, 7, 7, 7, 7, 7, 7, 7, 7, 7, 7, 7, 7, 7, 7, 7, 7, 7, 7, 7, 7, 7, 7, 7, 7, 7, 7, 7, 7, 7, 7, 7, 7, 7, 7, 7, 7, 7, 7, 7, 7, 7, 7, 7,
 7, 7, 7, 7, 7, 7, 7, 7, 7, 7, 7, 7, 7, 7, 7, 7, 7, 7, 7, 8, 8, 8, 8, 8, 8, 8, 8, 8, 8, 8, 8, 8, 8, 8, 8, 8, 8, 8, 8, 8, 8, 8, 8, 8, 8, 8, 8, 8, 8, 8, 8, 8, 8, 8, 8, 8, 8,
 8, 8, 8, 8, 8, 8, 8, 8, 8, 8, 8, 8, 8, 8, 8, 8, 8, 8, 8, 8, 8, 8, 8, 8, 8, 8, 8, 8, 8, 8, 8, 8, 8, 8, 8, 8, 8, 8, 8, 8, 8, 8, 8, 8, 8, 8, 8, 8, 8, 8, 8, 8, 8, 8, 8, 8, 8,
 8, 8, 8, 8, 8, 8, 8, 8, 8, 8, 8, 8, 8, 8, 8, 8, 8, 8, 8, 8, 8, 8, 8, 8, 8, 8, 8, 8, 8, 8, 8, 8, 8]) (IntKind.wrap .u8 (ishr .u64 x 8)) fun c6 => Ret [] (R (.int .i64
 (IntKind.wrap .i64 ((IntKind.wrap .i64 (0 + 8)) + (IntKind.wrap .i64 c6)))) w))) (OG (ByteArray.mk #[0, 1, 2, 2, 3, 3, 3, 3, 4, 4, 4, 4, 4, 4, 4, 4, 5, 5, 5, 5, 5, 5,
 5, 5, 5, 5, 5, 5, 5, 5, 5, 5, 6, 6, 6, 6, 6, 6, 6, 6, 6, 6, 6, 6, 6, 6, 6, 6, 6, 6, 6, 6, 6, 6, 6, 6, 6, 6, 6, 6, 6, 6, 6, 6, 7, 7, 7, 7, 7, 7, 7, 7, 7, 7, 7, 7, 7, 7, 7,
 7, 7, 7, 7, 7, 7, 7, 7, 7, 7, 7, 7, 7, 7, 7, 7, 7, 7, 7, 7, 7, 7, 7, 7, 7, 7, 7, 7, 7, 7, 7, 7, 7, 7, 7, 7, 7, 7, 7, 7, 7, 7, 7, 7, 7, 7, 7, 7, 7, 8, 8, 8, 8, 8, 8, 8, 8,
 8, 8, 8, 8, 8, 8, 8, 8, 8, 8, 8, 8, 8, 8, 8, 8, 8, 8, 8, 8, 8, 8, 8, 8, 8, 8, 8, 8, 8, 8, 8, 8, 8, 8, 8, 8, 8, 8, 8, 8, 8, 8, 8, 8, 8, 8, 8, 8, 8, 8, 8, 8, 8, 8, 8, 8, 8,
 8, 8, 8, 8, 8, 8, 8, 8, 8, 8, 8, 8, 8, 8, 8, 8, 8, 8, 8, 8, 8, 8, 8, 8, 8, 8, 8, 8, 8, 8, 8, 8, 8, 8, 8, 8, 8, 8, 8, 8, 8, 8, 8, 8, 8, 8, 8, 8, 8, 8, 8, 8, 8, 8, 8, 8, 8,
 8, 8, 8, 8, 8, 8]) (IntKind.wrap .u8 x) fun c7 => Ret [] (R (.int .i64 (IntKind.wrap .i64 (0 + (IntKind.wrap .i64 c7)))) w))))
theorem TC {x : Int} {w : World} {R : Value → World → Prop} (h : UP x w R) : zB Tryz.prog 285 #[.int .u64 x] w R := by
 exact zE (args := [.int .u64 x]) (zR [] [] [] [] []) zD Tryz.func285 rfl rfl (by kernel_rfl) h
def NG (x : Int) (w : World) (R : Value → World → Prop) : Prop :=
 zB Tryz.prog 285 #[.int .u64 x] w fun v w => OpI .i64 v fun n => Ret [] (R (.int .i64 n) w)
theorem zE2 {x : Int} {w : World} {R : Value → World → Prop} (h : NG x w R) : zB Tryz.prog 251 #[.int .u64 x] w R := by
 exact zE (args := [.int .u64 x]) (zR [] [] [] [] []) zD Tryz.func251 rfl rfl (by kernel_rfl) h
def xC (datap : Option Addr) (datal : Nat) (datac : Nat) (a : Int) (b : Int) (w : World) (R : Value → World → Prop) : Prop :=
 yC (σ := Int × Unit) (fun _ s1 w K1 => Cb (decide (s1.1 < b)) (yC (σ := Int × Unit) (fun _ s2 w K2 => Cb (decide (s2.1 > a)) (IdxS datap datal s2.1 1 fun b1 o => LdV
 b1 o (At w) fun v => OpI .u64 v fun n => IdxS datap datal (IntKind.wrap .i64 (s2.1 - 1)) 1 fun b2 o1 => LdV b2 o1 (At w) fun v1 => OpI .u64 v1 fun n1 => UW Tryz.prog
 281 #[.int .u64 n, .int .u64 n1] (At w) fun v2 => OpB v2 fun g => Drw w fun w => Cb g (yJ w fun S w => IdxS datap datal (IntKind.wrap .i64 (s2.1 - 1)) 1 fun b3 o2 =>
 LdV b3 o2 (At w) fun v3 => OpI .u64 v3 fun n2 => IdxS datap datal s2.1 1 fun b4 o3 => LdV b4 o3 (At w) fun v4 => OpI .u64 v4 fun n3 => IdxS datap datal s2.1 1 fun b5 o4 =>
 StV b5 o4 (.int .u64 n2) w fun w => Hld (S w) (IdxS datap datal (IntKind.wrap .i64 (s2.1 - 1)) 1 fun b6 o5 => StV b6 o5 (.int .u64 n3) w fun w => Hld (S w) (K2
 (IntKind.wrap .i64 (s2.1 - 1), ()) w))) (K1 (IntKind.wrap .i64 (s1.1 + 1), ()) w)) (Drw w fun w => K1 (IntKind.wrap .i64 (s1.1 + 1), ()) w)) (s1.1, ()) w) (Ret [] (R
 (.tuple #[]) w))) (IntKind.wrap .i64 (a + 1), ()) w
theorem vD {datap : Option Addr} {datal : Nat} {datac : Nat} {a : Int} {b : Int} {w : World} {R : Value → World → Prop} (h : xC datap datal datac a b w R) : zB Tryz.prog 275 #[.slice datap datal datac, .int .i64 a, .int .i64 b] w R := by
 exact zE (args := [.slice datap datal datac, .int .i64 a, .int .i64 b]) (zR [(1, [(6, (.int .i64))]), (4, [(7, (.int .i64))])] [] [] [] []) zD Tryz.func275 rfl rfl (by kernel_rfl) h
def xP (datap : Option Addr) (datal : Nat) (datac : Nat) (a : Int) (b : Int) (limit : Int) (w : World) (R : Value → World → Prop) : Prop :=
 yC (σ := Int × Int × Int × Bool × Bool × Unit) (fun _ s1 w K1 => Cb (decide (IntKind.wrap .i64 (s1.2.1 - s1.1) ≤ 12)) (zB Tryz.prog 275 #[.slice datap datal datac,
 .int .i64 s1.1, .int .i64 s1.2.1] w fun v w => Ret [] (R (.tuple #[]) w)) (Cb (s1.2.2.1 == 0) (zB Tryz.prog 276 #[.slice datap datal datac, .int .i64 s1.1, .int .i64
 s1.2.1] w fun v1 w => Ret [] (R (.tuple #[]) w)) (Cb (!s1.2.2.2.1) (zB Tryz.prog 277 #[.slice datap datal datac, .int .i64 s1.1, .int .i64 s1.2.1] w fun v2 w => zB
 Tryz.prog 278 #[.slice datap datal datac, .int .i64 s1.1, .int .i64 s1.2.1] w fun v3 w => T2 v3 fun v4 v5 => OpI .i64 v4 fun n => OpI .i64 v5 fun n1 => Cb (n1 == 2) (zB
 Tryz.prog 279 #[.slice datap datal datac, .int .i64 s1.1, .int .i64 s1.2.1] w fun v6 w => Req (s1.2.2.2.1 = s1.2.2.2.1) (Req ((cond s1.2.2.2.1 s1.2.2.2.2.1 false) = (cond
 s1.2.2.2.1 s1.2.2.2.2.1 false)) (Req ((cond s1.2.2.2.1 s1.2.2.2.2.1 false) = (cond s1.2.2.2.1 s1.2.2.2.2.1 false)) (Cb (cond (cond s1.2.2.2.1 s1.2.2.2.2.1 false) ((1 :
 Int) == 1) false) (zB Tryz.prog 280 #[.slice datap datal datac, .int .i64 s1.1, .int .i64 s1.2.1] w fun v7 w => OpB v7 fun g => Cb g (Ret [] (R (.tuple #[]) w)) (Cb
 (decide (s1.1 > 0)) (IdxS datap datal (IntKind.wrap .i64 (s1.1 - 1)) 1 fun b1 o => LdV b1 o (At w) fun v8 => OpI .u64 v8 fun n2 => IdxS datap datal (IntKind.wrap .i64
 ((IntKind.wrap .i64 (s1.2.1 - 1)) - (IntKind.wrap .i64 (n - s1.1)))) 1 fun b2 o1 => LdV b2 o1 (At w) fun v9 => OpI .u64 v9 fun n3 => UW Tryz.prog 281 #[.int .u64 n2,
 .int .u64 n3] (At w) fun v10 => OpB v10 fun g1 => Drw w fun w => Cb (!g1) (zB Tryz.prog 282 #[.slice datap datal datac, .int .i64 s1.1, .int .i64 s1.2.1, .int .i64
 (IntKind.wrap .i64 ((IntKind.wrap .i64 (s1.2.1 - 1)) - (IntKind.wrap .i64 (n - s1.1))))] w fun v11 w => OpI .i64 v11 fun n4 => K1 (n4, (s1.2.1, (IntKind.wrap .i64
 (s1.2.2.1 - 1), (s1.2.2.2.1, (s1.2.2.2.2.1, ()))))) w) (zB Tryz.prog 283 #[.slice datap datal datac, .int .i64 s1.1, .int .i64 s1.2.1, .int .i64 (IntKind.wrap .i64
 ((IntKind.wrap .i64 (s1.2.1 - 1)) - (IntKind.wrap .i64 (n - s1.1))))] w fun v12 w => T2 v12 fun v13 v14 => OpI .i64 v13 fun n5 => OpB v14 fun g2 => Req ((8 : Int) ≠ 0) (Cb
 (decide (IntKind.wrap .i64 (n5 - s1.1) < IntKind.wrap .i64 (s1.2.1 - n5))) (zB Tryz.prog 250 #[.slice datap datal datac, .int .i64 s1.1, .int .i64 n5, .int .i64
 (IntKind.wrap .i64 (s1.2.2.1 - 1))] w fun v15 w => K1 (IntKind.wrap .i64 (n5 + 1), (s1.2.1, (IntKind.wrap .i64 (s1.2.2.1 - 1), (decide (IntKind.wrap .i64 (n5 - s1.1) ≥
 IntKind.wrap .i64 (Int.tdiv (IntKind.wrap .i64 (s1.2.1 - s1.1)) 8)), (g2, ()))))) w) (zB Tryz.prog 250 #[.slice datap datal datac, .int .i64 (IntKind.wrap .i64 (n5 +
 1)), .int .i64 s1.2.1, .int .i64 (IntKind.wrap .i64 (s1.2.2.1 - 1))] w fun v16 w => K1 (s1.1, (n5, (IntKind.wrap .i64 (s1.2.2.1 - 1), (decide (IntKind.wrap .i64 (s1.2.1 -
 n5) ≥ IntKind.wrap .i64 (Int.tdiv (IntKind.wrap .i64 (s1.2.1 - s1.1)) 8)), (g2, ()))))) w)))) (Drw w fun w => zB Tryz.prog 283 #[.slice datap datal datac, .int .i64
 s1.1, .int .i64 s1.2.1, .int .i64 (IntKind.wrap .i64 ((IntKind.wrap .i64 (s1.2.1 - 1)) - (IntKind.wrap .i64 (n - s1.1))))] w fun v17 w => T2 v17 fun v18 v19 => OpI .i64
 v18 fun n6 => OpB v19 fun g3 => Req ((8 : Int) ≠ 0) (Cb (decide (IntKind.wrap .i64 (n6 - s1.1) < IntKind.wrap .i64 (s1.2.1 - n6))) (zB Tryz.prog 250 #[.slice datap
 datal datac, .int .i64 s1.1, .int .i64 n6, .int .i64 (IntKind.wrap .i64 (s1.2.2.1 - 1))] w fun v20 w => K1 (IntKind.wrap .i64 (n6 + 1), (s1.2.1, (IntKind.wrap .i64
 (s1.2.2.1 - 1), (decide (IntKind.wrap .i64 (n6 - s1.1) ≥ IntKind.wrap .i64 (Int.tdiv (IntKind.wrap .i64 (s1.2.1 - s1.1)) 8)), (g3, ()))))) w) (zB Tryz.prog 250 #[.slice
 datap datal datac, .int .i64 (IntKind.wrap .i64 (n6 + 1)), .int .i64 s1.2.1, .int .i64 (IntKind.wrap .i64 (s1.2.2.1 - 1))] w fun v21 w => K1 (s1.1, (n6, (IntKind.wrap .i64
 (s1.2.2.1 - 1), (decide (IntKind.wrap .i64 (s1.2.1 - n6) ≥ IntKind.wrap .i64 (Int.tdiv (IntKind.wrap .i64 (s1.2.1 - s1.1)) 8)), (g3, ()))))) w))))) (Cb (decide (s1.1 > 0))
 (IdxS datap datal (IntKind.wrap .i64 (s1.1 - 1)) 1 fun b3 o2 => LdV b3 o2 (At w) fun v22 => OpI .u64 v22 fun n7 => IdxS datap datal (IntKind.wrap .i64 ((IntKind.wrap .i64
 (s1.2.1 - 1)) - (IntKind.wrap .i64 (n - s1.1)))) 1 fun b4 o3 => LdV b4 o3 (At w) fun v23 => OpI .u64 v23 fun n8 => UW Tryz.prog 281 #[.int .u64 n7, .int .u64 n8] (At w)
 fun v24 => OpB v24 fun g4 => Drw w fun w => Cb (!g4) (zB Tryz.prog 282 #[.slice datap datal datac, .int .i64 s1.1, .int .i64 s1.2.1, .int .i64 (IntKind.wrap .i64
 ((IntKind.wrap .i64 (s1.2.1 - 1)) - (IntKind.wrap .i64 (n - s1.1))))] w fun v25 w => OpI .i64 v25 fun n9 => K1 (n9, (s1.2.1, (IntKind.wrap .i64 (s1.2.2.1 - 1),
 (s1.2.2.2.1, (s1.2.2.2.2.1, ()))))) w) (zB Tryz.prog 283 #[.slice datap datal datac, .int .i64 s1.1, .int .i64 s1.2.1, .int .i64 (IntKind.wrap .i64 ((IntKind.wrap .i64
 (s1.2.1 - 1)) - (IntKind.wrap .i64 (n - s1.1))))] w fun v26 w => T2 v26 fun v27 v28 => OpI .i64 v27 fun n10 => OpB v28 fun g5 => Req ((8 : Int) ≠ 0) (Cb (decide
 (IntKind.wrap .i64 (n10 - s1.1) < IntKind.wrap .i64 (s1.2.1 - n10))) (zB Tryz.prog 250 #[.slice datap datal datac, .int .i64 s1.1, .int .i64 n10, .int .i64
 (IntKind.wrap .i64 (s1.2.2.1 - 1))] w fun v29 w => K1 (IntKind.wrap .i64 (n10 + 1), (s1.2.1, (IntKind.wrap .i64 (s1.2.2.1 - 1), (decide (IntKind.wrap .i64 (n10 - s1.1) ≥
 IntKind.wrap .i64 (Int.tdiv (IntKind.wrap .i64 (s1.2.1 - s1.1)) 8)), (g5, ()))))) w) (zB Tryz.prog 250 #[.slice datap datal datac, .int .i64 (IntKind.wrap .i64 (n10 +
 1)), .int .i64 s1.2.1, .int .i64 (IntKind.wrap .i64 (s1.2.2.1 - 1))] w fun v30 w => K1 (s1.1, (n10, (IntKind.wrap .i64 (s1.2.2.1 - 1), (decide (IntKind.wrap .i64 (s1.2.1 -
 n10) ≥ IntKind.wrap .i64 (Int.tdiv (IntKind.wrap .i64 (s1.2.1 - s1.1)) 8)), (g5, ()))))) w)))) (Drw w fun w => zB Tryz.prog 283 #[.slice datap datal datac, .int .i64
 s1.1, .int .i64 s1.2.1, .int .i64 (IntKind.wrap .i64 ((IntKind.wrap .i64 (s1.2.1 - 1)) - (IntKind.wrap .i64 (n - s1.1))))] w fun v31 w => T2 v31 fun v32 v33 => OpI .i64
 v32 fun n11 => OpB v33 fun g6 => Req ((8 : Int) ≠ 0) (Cb (decide (IntKind.wrap .i64 (n11 - s1.1) < IntKind.wrap .i64 (s1.2.1 - n11))) (zB Tryz.prog 250 #[.slice datap
 datal datac, .int .i64 s1.1, .int .i64 n11, .int .i64 (IntKind.wrap .i64 (s1.2.2.1 - 1))] w fun v34 w => K1 (IntKind.wrap .i64 (n11 + 1), (s1.2.1, (IntKind.wrap .i64
 (s1.2.2.1 - 1), (decide (IntKind.wrap .i64 (n11 - s1.1) ≥ IntKind.wrap .i64 (Int.tdiv (IntKind.wrap .i64 (s1.2.1 - s1.1)) 8)), (g6, ()))))) w) (zB Tryz.prog 250
 #[.slice datap datal datac, .int .i64 (IntKind.wrap .i64 (n11 + 1)), .int .i64 s1.2.1, .int .i64 (IntKind.wrap .i64 (s1.2.2.1 - 1))] w fun v35 w => K1 (s1.1, (n11,
 (IntKind.wrap .i64 (s1.2.2.1 - 1), (decide (IntKind.wrap .i64 (s1.2.1 - n11) ≥ IntKind.wrap .i64 (Int.tdiv (IntKind.wrap .i64 (s1.2.1 - s1.1)) 8)), (g6, ()))))) w))))))))
 (Req (s1.2.2.2.1 = s1.2.2.2.1) (Req ((cond s1.2.2.2.1 s1.2.2.2.2.1 false) = (cond s1.2.2.2.1 s1.2.2.2.2.1 false)) (Req ((cond s1.2.2.2.1 s1.2.2.2.2.1 false) = (cond
 s1.2.2.2.1 s1.2.2.2.2.1 false)) (Cb (cond (cond s1.2.2.2.1 s1.2.2.2.2.1 false) (n1 == 1) false) (zB Tryz.prog 280 #[.slice datap datal datac, .int .i64 s1.1, .int .i64
 s1.2.1] w fun v36 w => OpB v36 fun g7 => Cb g7 (Ret [] (R (.tuple #[]) w)) (Cb (decide (s1.1 > 0)) (IdxS datap datal (IntKind.wrap .i64 (s1.1 - 1)) 1 fun b5 o4 => LdV b5
 o4 (At w) fun v37 => OpI .u64 v37 fun n12 => IdxS datap datal n 1 fun b6 o5 => LdV b6 o5 (At w) fun v38 => OpI .u64 v38 fun n13 => UW Tryz.prog 281 #[.int .u64 n12,
 .int .u64 n13] (At w) fun v39 => OpB v39 fun g8 => Drw w fun w => Cb (!g8) (zB Tryz.prog 282 #[.slice datap datal datac, .int .i64 s1.1, .int .i64 s1.2.1, .int .i64 n]
 w fun v40 w => OpI .i64 v40 fun n14 => K1 (n14, (s1.2.1, (IntKind.wrap .i64 (s1.2.2.1 - 1), (s1.2.2.2.1, (s1.2.2.2.2.1, ()))))) w) (zB Tryz.prog 283 #[.slice datap
 datal datac, .int .i64 s1.1, .int .i64 s1.2.1, .int .i64 n] w fun v41 w => T2 v41 fun v42 v43 => OpI .i64 v42 fun n15 => OpB v43 fun g9 => Req ((8 : Int) ≠ 0) (Cb (decide
 (IntKind.wrap .i64 (n15 - s1.1) < IntKind.wrap .i64 (s1.2.1 - n15))) (zB Tryz.prog 250 #[.slice datap datal datac, .int .i64 s1.1, .int .i64 n15, .int .i64
 (IntKind.wrap .i64 (s1.2.2.1 - 1))] w fun v44 w => K1 (IntKind.wrap .i64 (n15 + 1), (s1.2.1, (IntKind.wrap .i64 (s1.2.2.1 - 1), (decide (IntKind.wrap .i64 (n15 - s1.1) ≥
 IntKind.wrap .i64 (Int.tdiv (IntKind.wrap .i64 (s1.2.1 - s1.1)) 8)), (g9, ()))))) w) (zB Tryz.prog 250 #[.slice datap datal datac, .int .i64 (IntKind.wrap .i64 (n15 +
 1)), .int .i64 s1.2.1, .int .i64 (IntKind.wrap .i64 (s1.2.2.1 - 1))] w fun v45 w => K1 (s1.1, (n15, (IntKind.wrap .i64 (s1.2.2.1 - 1), (decide (IntKind.wrap .i64 (s1.2.1 -
 n15) ≥ IntKind.wrap .i64 (Int.tdiv (IntKind.wrap .i64 (s1.2.1 - s1.1)) 8)), (g9, ()))))) w)))) (Drw w fun w => zB Tryz.prog 283 #[.slice datap datal datac, .int .i64
 s1.1, .int .i64 s1.2.1, .int .i64 n] w fun v46 w => T2 v46 fun v47 v48 => OpI .i64 v47 fun n16 => OpB v48 fun g10 => Req ((8 : Int) ≠ 0) (Cb (decide (IntKind.wrap .i64
 (n16 - s1.1) < IntKind.wrap .i64 (s1.2.1 - n16))) (zB Tryz.prog 250 #[.slice datap datal datac, .int .i64 s1.1, .int .i64 n16, .int .i64 (IntKind.wrap .i64 (s1.2.2.1 -
 1))] w fun v49 w => K1 (IntKind.wrap .i64 (n16 + 1), (s1.2.1, (IntKind.wrap .i64 (s1.2.2.1 - 1), (decide (IntKind.wrap .i64 (n16 - s1.1) ≥ IntKind.wrap .i64 (Int.tdiv
 (IntKind.wrap .i64 (s1.2.1 - s1.1)) 8)), (g10, ()))))) w) (zB Tryz.prog 250 #[.slice datap datal datac, .int .i64 (IntKind.wrap .i64 (n16 + 1)), .int .i64 s1.2.1, .int
 .i64 (IntKind.wrap .i64 (s1.2.2.1 - 1))] w fun v50 w => K1 (s1.1, (n16, (IntKind.wrap .i64 (s1.2.2.1 - 1), (decide (IntKind.wrap .i64 (s1.2.1 - n16) ≥ IntKind.wrap .i64
 (Int.tdiv (IntKind.wrap .i64 (s1.2.1 - s1.1)) 8)), (g10, ()))))) w))))) (Cb (decide (s1.1 > 0)) (IdxS datap datal (IntKind.wrap .i64 (s1.1 - 1)) 1 fun b7 o6 => LdV b7 o6
 (At w) fun v51 => OpI .u64 v51 fun n17 => IdxS datap datal n 1 fun b8 o7 => LdV b8 o7 (At w) fun v52 => OpI .u64 v52 fun n18 => UW Tryz.prog 281 #[.int .u64 n17, .int
 .u64 n18] (At w) fun v53 => OpB v53 fun g11 => Drw w fun w => Cb (!g11) (zB Tryz.prog 282 #[.slice datap datal datac, .int .i64 s1.1, .int .i64 s1.2.1, .int .i64 n] w
 fun v54 w => OpI .i64 v54 fun n19 => K1 (n19, (s1.2.1, (IntKind.wrap .i64 (s1.2.2.1 - 1), (s1.2.2.2.1, (s1.2.2.2.2.1, ()))))) w) (zB Tryz.prog 283 #[.slice datap datal
 datac, .int .i64 s1.1, .int .i64 s1.2.1, .int .i64 n] w fun v55 w => T2 v55 fun v56 v57 => OpI .i64 v56 fun n20 => OpB v57 fun g12 => Req ((8 : Int) ≠ 0) (Cb (decide
 (IntKind.wrap .i64 (n20 - s1.1) < IntKind.wrap .i64 (s1.2.1 - n20))) (zB Tryz.prog 250 #[.slice datap datal datac, .int .i64 s1.1, .int .i64 n20, .int .i64
 (IntKind.wrap .i64 (s1.2.2.1 - 1))] w fun v58 w => K1 (IntKind.wrap .i64 (n20 + 1), (s1.2.1, (IntKind.wrap .i64 (s1.2.2.1 - 1), (decide (IntKind.wrap .i64 (n20 - s1.1) ≥
 IntKind.wrap .i64 (Int.tdiv (IntKind.wrap .i64 (s1.2.1 - s1.1)) 8)), (g12, ()))))) w) (zB Tryz.prog 250 #[.slice datap datal datac, .int .i64 (IntKind.wrap .i64 (n20 +
 1)), .int .i64 s1.2.1, .int .i64 (IntKind.wrap .i64 (s1.2.2.1 - 1))] w fun v59 w => K1 (s1.1, (n20, (IntKind.wrap .i64 (s1.2.2.1 - 1), (decide (IntKind.wrap .i64 (s1.2.1 -
 n20) ≥ IntKind.wrap .i64 (Int.tdiv (IntKind.wrap .i64 (s1.2.1 - s1.1)) 8)), (g12, ()))))) w)))) (Drw w fun w => zB Tryz.prog 283 #[.slice datap datal datac, .int .i64
 s1.1, .int .i64 s1.2.1, .int .i64 n] w fun v60 w => T2 v60 fun v61 v62 => OpI .i64 v61 fun n21 => OpB v62 fun g13 => Req ((8 : Int) ≠ 0) (Cb (decide (IntKind.wrap .i64
 (n21 - s1.1) < IntKind.wrap .i64 (s1.2.1 - n21))) (zB Tryz.prog 250 #[.slice datap datal datac, .int .i64 s1.1, .int .i64 n21, .int .i64 (IntKind.wrap .i64 (s1.2.2.1 -
 1))] w fun v63 w => K1 (IntKind.wrap .i64 (n21 + 1), (s1.2.1, (IntKind.wrap .i64 (s1.2.2.1 - 1), (decide (IntKind.wrap .i64 (n21 - s1.1) ≥ IntKind.wrap .i64 (Int.tdiv
 (IntKind.wrap .i64 (s1.2.1 - s1.1)) 8)), (g13, ()))))) w) (zB Tryz.prog 250 #[.slice datap datal datac, .int .i64 (IntKind.wrap .i64 (n21 + 1)), .int .i64 s1.2.1, .int
 .i64 (IntKind.wrap .i64 (s1.2.2.1 - 1))] w fun v64 w => K1 (s1.1, (n21, (IntKind.wrap .i64 (s1.2.2.1 - 1), (decide (IntKind.wrap .i64 (s1.2.1 - n21) ≥ IntKind.wrap .i64
 (Int.tdiv (IntKind.wrap .i64 (s1.2.1 - s1.1)) 8)), (g13, ()))))) w))))))))) (zB Tryz.prog 278 #[.slice datap datal datac, .int .i64 s1.1, .int .i64 s1.2.1] w fun v65 w
 => T2 v65 fun v66 v67 => OpI .i64 v66 fun n22 => OpI .i64 v67 fun n23 => Cb (n23 == 2) (zB Tryz.prog 279 #[.slice datap datal datac, .int .i64 s1.1, .int .i64 s1.2.1] w
 fun v68 w => Req (s1.2.2.2.1 = s1.2.2.2.1) (Req ((cond s1.2.2.2.1 s1.2.2.2.2.1 false) = (cond s1.2.2.2.1 s1.2.2.2.2.1 false)) (Req ((cond s1.2.2.2.1 s1.2.2.2.2.1 false) =
 (cond s1.2.2.2.1 s1.2.2.2.2.1 false)) (Cb (cond (cond s1.2.2.2.1 s1.2.2.2.2.1 false) ((1 : Int) == 1) false) (zB Tryz.prog 280 #[.slice datap datal datac, .int .i64
 s1.1, .int .i64 s1.2.1] w fun v69 w => OpB v69 fun g14 => Cb g14 (Ret [] (R (.tuple #[]) w)) (Cb (decide (s1.1 > 0)) (IdxS datap datal (IntKind.wrap .i64 (s1.1 - 1)) 1 fun
 b9 o8 => LdV b9 o8 (At w) fun v70 => OpI .u64 v70 fun n24 => IdxS datap datal (IntKind.wrap .i64 ((IntKind.wrap .i64 (s1.2.1 - 1)) - (IntKind.wrap .i64 (n22 - s1.1)))) 1
 fun b10 o9 => LdV b10 o9 (At w) fun v71 => OpI .u64 v71 fun n25 => UW Tryz.prog 281 #[.int .u64 n24, .int .u64 n25] (At w) fun v72 => OpB v72 fun g15 => Drw w fun w =>
 Cb (!g15) (zB Tryz.prog 282 #[.slice datap datal datac, .int .i64 s1.1, .int .i64 s1.2.1, .int .i64 (IntKind.wrap .i64 ((IntKind.wrap .i64 (s1.2.1 - 1)) - (IntKind.wrap
 .i64 (n22 - s1.1))))] w fun v73 w => OpI .i64 v73 fun n26 => K1 (n26, (s1.2.1, (s1.2.2.1, (s1.2.2.2.1, (s1.2.2.2.2.1, ()))))) w) (zB Tryz.prog 283 #[.slice datap datal
 datac, .int .i64 s1.1, .int .i64 s1.2.1, .int .i64 (IntKind.wrap .i64 ((IntKind.wrap .i64 (s1.2.1 - 1)) - (IntKind.wrap .i64 (n22 - s1.1))))] w fun v74 w => T2 v74 fun v75
 v76 => OpI .i64 v75 fun n27 => OpB v76 fun g16 => Req ((8 : Int) ≠ 0) (Cb (decide (IntKind.wrap .i64 (n27 - s1.1) < IntKind.wrap .i64 (s1.2.1 - n27))) (zB Tryz.prog 250
 #[.slice datap datal datac, .int .i64 s1.1, .int .i64 n27, .int .i64 s1.2.2.1] w fun v77 w => K1 (IntKind.wrap .i64 (n27 + 1), (s1.2.1, (s1.2.2.1, (decide (IntKind.wrap
 .i64 (n27 - s1.1) ≥ IntKind.wrap .i64 (Int.tdiv (IntKind.wrap .i64 (s1.2.1 - s1.1)) 8)), (g16, ()))))) w) (zB Tryz.prog 250 #[.slice datap datal datac, .int .i64
 (IntKind.wrap .i64 (n27 + 1)), .int .i64 s1.2.1, .int .i64 s1.2.2.1] w fun v78 w => K1 (s1.1, (n27, (s1.2.2.1, (decide (IntKind.wrap .i64 (s1.2.1 - n27) ≥ IntKind.wrap
 .i64 (Int.tdiv (IntKind.wrap .i64 (s1.2.1 - s1.1)) 8)), (g16, ()))))) w)))) (Drw w fun w => zB Tryz.prog 283 #[.slice datap datal datac, .int .i64 s1.1, .int .i64
 s1.2.1, .int .i64 (IntKind.wrap .i64 ((IntKind.wrap .i64 (s1.2.1 - 1)) - (IntKind.wrap .i64 (n22 - s1.1))))] w fun v79 w => T2 v79 fun v80 v81 => OpI .i64 v80 fun n28 =>
 OpB v81 fun g17 => Req ((8 : Int) ≠ 0) (Cb (decide (IntKind.wrap .i64 (n28 - s1.1) < IntKind.wrap .i64 (s1.2.1 - n28))) (zB Tryz.prog 250 #[.slice datap datal datac,
 .int .i64 s1.1, .int .i64 n28, .int .i64 s1.2.2.1] w fun v82 w => K1 (IntKind.wrap .i64 (n28 + 1), (s1.2.1, (s1.2.2.1, (decide (IntKind.wrap .i64 (n28 - s1.1) ≥
 IntKind.wrap .i64 (Int.tdiv (IntKind.wrap .i64 (s1.2.1 - s1.1)) 8)), (g17, ()))))) w) (zB Tryz.prog 250 #[.slice datap datal datac, .int .i64 (IntKind.wrap .i64 (n28 +
 1)), .int .i64 s1.2.1, .int .i64 s1.2.2.1] w fun v83 w => K1 (s1.1, (n28, (s1.2.2.1, (decide (IntKind.wrap .i64 (s1.2.1 - n28) ≥ IntKind.wrap .i64 (Int.tdiv (IntKind.wrap
 .i64 (s1.2.1 - s1.1)) 8)), (g17, ()))))) w))))) (Cb (decide (s1.1 > 0)) (IdxS datap datal (IntKind.wrap .i64 (s1.1 - 1)) 1 fun b11 o10 => LdV b11 o10 (At w) fun v84 => OpI
 .u64 v84 fun n29 => IdxS datap datal (IntKind.wrap .i64 ((IntKind.wrap .i64 (s1.2.1 - 1)) - (IntKind.wrap .i64 (n22 - s1.1)))) 1 fun b12 o11 => LdV b12 o11 (At w) fun v85
 => OpI .u64 v85 fun n30 => UW Tryz.prog 281 #[.int .u64 n29, .int .u64 n30] (At w) fun v86 => OpB v86 fun g18 => Drw w fun w => Cb (!g18) (zB Tryz.prog 282 #[.slice
 datap datal datac, .int .i64 s1.1, .int .i64 s1.2.1, .int .i64 (IntKind.wrap .i64 ((IntKind.wrap .i64 (s1.2.1 - 1)) - (IntKind.wrap .i64 (n22 - s1.1))))] w fun v87 w =>
 OpI .i64 v87 fun n31 => K1 (n31, (s1.2.1, (s1.2.2.1, (s1.2.2.2.1, (s1.2.2.2.2.1, ()))))) w) (zB Tryz.prog 283 #[.slice datap datal datac, .int .i64 s1.1, .int .i64
 s1.2.1, .int .i64 (IntKind.wrap .i64 ((IntKind.wrap .i64 (s1.2.1 - 1)) - (IntKind.wrap .i64 (n22 - s1.1))))] w fun v88 w => T2 v88 fun v89 v90 => OpI .i64 v89 fun n32 =>
 OpB v90 fun g19 => Req ((8 : Int) ≠ 0) (Cb (decide (IntKind.wrap .i64 (n32 - s1.1) < IntKind.wrap .i64 (s1.2.1 - n32))) (zB Tryz.prog 250 #[.slice datap datal datac,
 .int .i64 s1.1, .int .i64 n32, .int .i64 s1.2.2.1] w fun v91 w => K1 (IntKind.wrap .i64 (n32 + 1), (s1.2.1, (s1.2.2.1, (decide (IntKind.wrap .i64 (n32 - s1.1) ≥
 IntKind.wrap .i64 (Int.tdiv (IntKind.wrap .i64 (s1.2.1 - s1.1)) 8)), (g19, ()))))) w) (zB Tryz.prog 250 #[.slice datap datal datac, .int .i64 (IntKind.wrap .i64 (n32 +
 1)), .int .i64 s1.2.1, .int .i64 s1.2.2.1] w fun v92 w => K1 (s1.1, (n32, (s1.2.2.1, (decide (IntKind.wrap .i64 (s1.2.1 - n32) ≥ IntKind.wrap .i64 (Int.tdiv (IntKind.wrap
 .i64 (s1.2.1 - s1.1)) 8)), (g19, ()))))) w)))) (Drw w fun w => zB Tryz.prog 283 #[.slice datap datal datac, .int .i64 s1.1, .int .i64 s1.2.1, .int .i64 (IntKind.wrap
 .i64 ((IntKind.wrap .i64 (s1.2.1 - 1)) - (IntKind.wrap .i64 (n22 - s1.1))))] w fun v93 w => T2 v93 fun v94 v95 => OpI .i64 v94 fun n33 => OpB v95 fun g20 => Req ((8 : Int)
 ≠ 0) (Cb (decide (IntKind.wrap .i64 (n33 - s1.1) < IntKind.wrap .i64 (s1.2.1 - n33))) (zB Tryz.prog 250 #[.slice datap datal datac, .int .i64 s1.1, .int .i64 n33, .int
 .i64 s1.2.2.1] w fun v96 w => K1 (IntKind.wrap .i64 (n33 + 1), (s1.2.1, (s1.2.2.1, (decide (IntKind.wrap .i64 (n33 - s1.1) ≥ IntKind.wrap .i64 (Int.tdiv (IntKind.wrap .i64
 (s1.2.1 - s1.1)) 8)), (g20, ()))))) w) (zB Tryz.prog 250 #[.slice datap datal datac, .int .i64 (IntKind.wrap .i64 (n33 + 1)), .int .i64 s1.2.1, .int .i64 s1.2.2.1] w
 fun v97 w => K1 (s1.1, (n33, (s1.2.2.1, (decide (IntKind.wrap .i64 (s1.2.1 - n33) ≥ IntKind.wrap .i64 (Int.tdiv (IntKind.wrap .i64 (s1.2.1 - s1.1)) 8)), (g20, ())))))
 w)))))))) (Req (s1.2.2.2.1 = s1.2.2.2.1) (Req ((cond s1.2.2.2.1 s1.2.2.2.2.1 false) = (cond s1.2.2.2.1 s1.2.2.2.2.1 false)) (Req ((cond s1.2.2.2.1 s1.2.2.2.2.1 false) =
 (cond s1.2.2.2.1 s1.2.2.2.2.1 false)) (Cb (cond (cond s1.2.2.2.1 s1.2.2.2.2.1 false) (n23 == 1) false) (zB Tryz.prog 280 #[.slice datap datal datac, .int .i64 s1.1,
 .int .i64 s1.2.1] w fun v98 w => OpB v98 fun g21 => Cb g21 (Ret [] (R (.tuple #[]) w)) (Cb (decide (s1.1 > 0)) (IdxS datap datal (IntKind.wrap .i64 (s1.1 - 1)) 1 fun b13
 o12 => LdV b13 o12 (At w) fun v99 => OpI .u64 v99 fun n34 => IdxS datap datal n22 1 fun b14 o13 => LdV b14 o13 (At w) fun v100 => OpI .u64 v100 fun n35 => UW Tryz.prog
 281 #[.int .u64 n34, .int .u64 n35] (At w) fun v101 => OpB v101 fun g22 => Drw w fun w => Cb (!g22) (zB Tryz.prog 282 #[.slice datap datal datac, .int .i64 s1.1, .int
 .i64 s1.2.1, .int .i64 n22] w fun v102 w => OpI .i64 v102 fun n36 => K1 (n36, (s1.2.1, (s1.2.2.1, (s1.2.2.2.1, (s1.2.2.2.2.1, ()))))) w) (zB Tryz.prog 283 #[.slice
 datap datal datac, .int .i64 s1.1, .int .i64 s1.2.1, .int .i64 n22] w fun v103 w => T2 v103 fun v104 v105 => OpI .i64 v104 fun n37 => OpB v105 fun g23 => Req ((8 : Int) ≠
 0) (Cb (decide (IntKind.wrap .i64 (n37 - s1.1) < IntKind.wrap .i64 (s1.2.1 - n37))) (zB Tryz.prog 250 #[.slice datap datal datac, .int .i64 s1.1, .int .i64 n37, .int
 .i64 s1.2.2.1] w fun v106 w => K1 (IntKind.wrap .i64 (n37 + 1), (s1.2.1, (s1.2.2.1, (decide (IntKind.wrap .i64 (n37 - s1.1) ≥ IntKind.wrap .i64 (Int.tdiv (IntKind.wrap
 .i64 (s1.2.1 - s1.1)) 8)), (g23, ()))))) w) (zB Tryz.prog 250 #[.slice datap datal datac, .int .i64 (IntKind.wrap .i64 (n37 + 1)), .int .i64 s1.2.1, .int .i64 s1.2.2.1]
 w fun v107 w => K1 (s1.1, (n37, (s1.2.2.1, (decide (IntKind.wrap .i64 (s1.2.1 - n37) ≥ IntKind.wrap .i64 (Int.tdiv (IntKind.wrap .i64 (s1.2.1 - s1.1)) 8)), (g23, ())))))
 w)))) (Drw w fun w => zB Tryz.prog 283 #[.slice datap datal datac, .int .i64 s1.1, .int .i64 s1.2.1, .int .i64 n22] w fun v108 w => T2 v108 fun v109 v110 => OpI .i64
 v109 fun n38 => OpB v110 fun g24 => Req ((8 : Int) ≠ 0) (Cb (decide (IntKind.wrap .i64 (n38 - s1.1) < IntKind.wrap .i64 (s1.2.1 - n38))) (zB Tryz.prog 250 #[.slice
 datap datal datac, .int .i64 s1.1, .int .i64 n38, .int .i64 s1.2.2.1] w fun v111 w => K1 (IntKind.wrap .i64 (n38 + 1), (s1.2.1, (s1.2.2.1, (decide (IntKind.wrap .i64 (n38
 - s1.1) ≥ IntKind.wrap .i64 (Int.tdiv (IntKind.wrap .i64 (s1.2.1 - s1.1)) 8)), (g24, ()))))) w) (zB Tryz.prog 250 #[.slice datap datal datac, .int .i64 (IntKind.wrap
 .i64 (n38 + 1)), .int .i64 s1.2.1, .int .i64 s1.2.2.1] w fun v112 w => K1 (s1.1, (n38, (s1.2.2.1, (decide (IntKind.wrap .i64 (s1.2.1 - n38) ≥ IntKind.wrap .i64 (Int.tdiv
 (IntKind.wrap .i64 (s1.2.1 - s1.1)) 8)), (g24, ()))))) w))))) (Cb (decide (s1.1 > 0)) (IdxS datap datal (IntKind.wrap .i64 (s1.1 - 1)) 1 fun b15 o14 => LdV b15 o14 (At w)
 fun v113 => OpI .u64 v113 fun n39 => IdxS datap datal n22 1 fun b16 o15 => LdV b16 o15 (At w) fun v114 => OpI .u64 v114 fun n40 => UW Tryz.prog 281 #[.int .u64 n39,
 .int .u64 n40] (At w) fun v115 => OpB v115 fun g25 => Drw w fun w => Cb (!g25) (zB Tryz.prog 282 #[.slice datap datal datac, .int .i64 s1.1, .int .i64 s1.2.1, .int .i64
 n22] w fun v116 w => OpI .i64 v116 fun n41 => K1 (n41, (s1.2.1, (s1.2.2.1, (s1.2.2.2.1, (s1.2.2.2.2.1, ()))))) w) (zB Tryz.prog 283 #[.slice datap datal datac, .int
 .i64 s1.1, .int .i64 s1.2.1, .int .i64 n22] w fun v117 w => T2 v117 fun v118 v119 => OpI .i64 v118 fun n42 => OpB v119 fun g26 => Req ((8 : Int) ≠ 0) (Cb (decide
 (IntKind.wrap .i64 (n42 - s1.1) < IntKind.wrap .i64 (s1.2.1 - n42))) (zB Tryz.prog 250 #[.slice datap datal datac, .int .i64 s1.1, .int .i64 n42, .int .i64 s1.2.2.1] w
 fun v120 w => K1 (IntKind.wrap .i64 (n42 + 1), (s1.2.1, (s1.2.2.1, (decide (IntKind.wrap .i64 (n42 - s1.1) ≥ IntKind.wrap .i64 (Int.tdiv (IntKind.wrap .i64 (s1.2.1 -
 s1.1)) 8)), (g26, ()))))) w) (zB Tryz.prog 250 #[.slice datap datal datac, .int .i64 (IntKind.wrap .i64 (n42 + 1)), .int .i64 s1.2.1, .int .i64 s1.2.2.1] w fun v121 w
 => K1 (s1.1, (n42, (s1.2.2.1, (decide (IntKind.wrap .i64 (s1.2.1 - n42) ≥ IntKind.wrap .i64 (Int.tdiv (IntKind.wrap .i64 (s1.2.1 - s1.1)) 8)), (g26, ()))))) w)))) (Drw w
 fun w => zB Tryz.prog 283 #[.slice datap datal datac, .int .i64 s1.1, .int .i64 s1.2.1, .int .i64 n22] w fun v122 w => T2 v122 fun v123 v124 => OpI .i64 v123 fun n43 =>
 OpB v124 fun g27 => Req ((8 : Int) ≠ 0) (Cb (decide (IntKind.wrap .i64 (n43 - s1.1) < IntKind.wrap .i64 (s1.2.1 - n43))) (zB Tryz.prog 250 #[.slice datap datal datac,
 .int .i64 s1.1, .int .i64 n43, .int .i64 s1.2.2.1] w fun v125 w => K1 (IntKind.wrap .i64 (n43 + 1), (s1.2.1, (s1.2.2.1, (decide (IntKind.wrap .i64 (n43 - s1.1) ≥
 IntKind.wrap .i64 (Int.tdiv (IntKind.wrap .i64 (s1.2.1 - s1.1)) 8)), (g27, ()))))) w) (zB Tryz.prog 250 #[.slice datap datal datac, .int .i64 (IntKind.wrap .i64 (n43 +
 1)), .int .i64 s1.2.1, .int .i64 s1.2.2.1] w fun v126 w => K1 (s1.1, (n43, (s1.2.2.1, (decide (IntKind.wrap .i64 (s1.2.1 - n43) ≥ IntKind.wrap .i64 (Int.tdiv (IntKind.wrap
 .i64 (s1.2.1 - s1.1)) 8)), (g27, ()))))) w)))))))))))) (a, (b, (limit, (true, (true, ()))))) w
theorem u6 {datap : Option Addr} {datal : Nat} {datac : Nat} {a : Int} {b : Int} {limit : Int} {w : World} {R : Value → World → Prop} (h : xP datap datal datac a b limit w R) : zB Tryz.prog 250 #[.slice datap datal datac, .int .i64 a, .int .i64 b, .int .i64 limit] w R := by
 exact zE (args := [.slice datap datal datac, .int .i64 a, .int .i64 b, .int .i64 limit]) (zR [(2, [(1, (.int .i64)), (2, (.int .i64)), (3, (.int .i64)), (8, .bool), (9, .bool)])] [] [] [] []) zD Tryz.func250 rfl rfl (by kernel_rfl) h
def kD (xp : Option Addr) (xl : Nat) (xc : Nat) (w : World) (R : Value → World → Prop) : Prop :=
 zB Tryz.prog 251 #[.int .u64 (IntKind.wrap .u64 ((xl : Nat) : Int))] w fun v w => OpI .i64 v fun n => zB Tryz.prog 250 #[.slice xp xl xc, .int .i64 0, .int .i64 ((xl
 : Nat) : Int), .int .i64 n] w fun v1 w => Ret [] (R (.tuple #[]) w)
theorem ZZ {xp : Option Addr} {xl : Nat} {xc : Nat} {w : World} {R : Value → World → Prop} (h : kD xp xl xc w R) : zB Tryz.prog 203 #[.slice xp xl xc] w R := by
 exact zE (args := [.slice xp xl xc]) (zR [] [] [] [] []) zD Tryz.func203 rfl rfl (by kernel_rfl) h
def NH (p : Option Addr) (l : Nat) (c : Nat) (w : World) (R : Value → World → Prop) : Prop :=
 yC (σ := Int × Unit) (fun _ s1 w K1 => Cb (decide (s1.1 < ((l : Nat) : Int))) (IdxS p l s1.1 1 fun b o => LdV b o (At w) fun v => OpN v fun b1 o1 => K1 (IntKind.wrap
 .i64 (s1.1 + 1), ()) w) (Ret [] (R (.int .i64 (-1)) w))) (0, ()) w
theorem zE3 {p : Option Addr} {l : Nat} {c : Nat} {w : World} {R : Value → World → Prop} (h : NH p l c w R) : zB Tryz.prog 274 #[.slice p l c, .pointer none] w R := by
 exact zE (args := [.slice p l c, .pointer none]) (zR [(2, [(8, (.int .i64))])] [] [] [] []) zD Tryz.func274 rfl rfl (by kernel_rfl) h
def WY (p : Option Addr) (l : Nat) (c : Nat) (w : World) (R : Value → World → Prop) : Prop :=
 zB Tryz.prog 274 #[.slice p l c, .pointer none] w fun v w => OpI .i64 v fun n => Ret [] (R (.bool (decide (n ≥ 0))) w)
theorem OY {p : Option Addr} {l : Nat} {c : Nat} {w : World} {R : Value → World → Prop} (h : WY p l c w R) : zB Tryz.prog 248 #[.slice p l c, .pointer none] w R := by
 exact zE (args := [.slice p l c, .pointer none]) (zR [] [] [] [] []) zD Tryz.func248 rfl rfl (by kernel_rfl) h
def wQ (ramsp : Option Addr) (ramsl : Nat) (ramsc : Nat) (w : World) (R : Value → World → Prop) : Prop :=
 zB Tryz.prog 248 #[.slice ramsp ramsl ramsc, .pointer none] w fun v w => OpB v fun g => Ret [] (R (.bool g) w)
theorem U3 {ramsp : Option Addr} {ramsl : Nat} {ramsc : Nat} {w : World} {R : Value → World → Prop} (h : wQ ramsp ramsl ramsc w R) : zB Tryz.prog 199 #[.slice ramsp ramsl ramsc] w R := by
 exact zE (args := [.slice ramsp ramsl ramsc]) (zR [] [] [] [] []) zD Tryz.func199 rfl rfl (by kernel_rfl) h
def WV (ramsp : Option Addr) (ramsl : Nat) (ramsc : Nat) (x : Array Value) (w : World) (R : Value → World → Prop) : Prop :=
 Alc 246 x w fun b w => yC (σ := Int × Unit) (fun _ s1 w K1 => Cb (decide (s1.1 < ((ramsl : Nat) : Int))) (IdxS ramsp ramsl s1.1 1 fun b1 o => LdV b1 o (At w) fun v =>
 OpN v fun b2 o1 => LdA 19 b 0 (At w) fun cs => zB Tryz.prog 165 #[.pointer (some ⟨b2, o1, none⟩), .agg cs] w fun v1 w => OpI .i64 v1 fun n => Cb (n != 0) (Ret [] (R
 (.int .i64 n) w)) (K1 (IntKind.wrap .i64 (s1.1 + 1), ()) w)) (Ret [] (R (.int .i64 0) w))) (0, ()) w
theorem OV {ramsp : Option Addr} {ramsl : Nat} {ramsc : Nat} {x : Array Value} {w : World} {R : Value → World → Prop} (h : WV ramsp ramsl ramsc x w R) : zB Tryz.prog 200 #[.slice ramsp ramsl ramsc, .agg x] w R := by
 exact zE (args := [.slice ramsp ramsl ramsc, .agg x]) (zR [(2, [(10, (.int .i64))])] [] [] [] []) zD Tryz.func200 rfl rfl (by kernel_rfl) h
def YM (ramsp : Option Addr) (ramsl : Nat) (ramsc : Nat) (version : Int) (putsp : Option Addr) (putsl : Nat) (putsc : Nat) (w : World) (R : Value → World → Prop) : Prop :=
 zB Tryz.prog 199 #[.slice ramsp ramsl ramsc] w fun v w => OpB v fun g => Cb g (Ret [] (R (.int .i64 2) w)) (yC (σ := Int × Unit) (fun _ s1 w K1 => Cb (decide (s1.1 <
 ((putsl : Nat) : Int))) (IdxS putsp putsl s1.1 19 fun b o => LdA 19 b o (At w) fun cs => Alc 88 (zc Tryz.prog 88) w fun b1 w => StA 19 b1 0 cs w fun w => LdV b1 0 (At w)
 fun v1 => OpI .i64 v1 fun n => Cb (decide (n < 0)) (Ret [] (R (.int .i64 2) w)) (LdV b1 0 (At w) fun v2 => OpI .i64 v2 fun n1 => Cb (decide (n1 ≥ 32)) (Ret [] (R (.int
 .i64 2) w)) (LdV b1 1 (At w) fun v3 => OpI .i64 v3 fun n2 => Cb (decide (n2 < 0)) (Ret [] (R (.int .i64 2) w)) (LdV b1 1 (At w) fun v4 => OpI .i64 v4 fun n3 => Cb (decide
 (n3 ≥ 1024)) (Ret [] (R (.int .i64 2) w)) (K1 (IntKind.wrap .i64 (s1.1 + 1), ()) w))))) (yC (σ := Int × Unit) (fun _ s2 w K2 => Cb (decide (s2.1 < ((putsl : Nat) :
 Int))) (IdxS putsp putsl s2.1 19 fun b2 o1 => LdA 19 b2 o1 (At w) fun cs1 => Alc 88 (zc Tryz.prog 88) w fun b3 w => StA 19 b3 0 cs1 w fun w => LdV b3 0 (At w) fun v5 =>
 OpI .i64 v5 fun n4 => LdV b3 1 (At w) fun v6 => OpI .i64 v6 fun n5 => LdA 16 b3 2 (At w) fun cs2 => DoQ Tryz.prog (Instr.build 246 #[(0, .int .i64 3), (1, .int .u64
 version), (2, .int .i64 (IntKind.wrap .i64 ((IntKind.wrap .i64 (n4 * 1024)) + n5))), (3, .agg cs2)]) (At w) fun v7 => OpA 19 v7 fun cs3 => zB Tryz.prog 200 #[.slice
 ramsp ramsl ramsc, .agg cs3] w fun v8 w => OpI .i64 v8 fun n6 => Cb (n6 != 0) (Ret [] (R (.int .i64 n6) w)) (K2 (IntKind.wrap .i64 (s2.1 + 1), ()) w)) (DoQ Tryz.prog
 (Instr.build 246 #[(0, .int .i64 4), (1, .int .u64 version)]) (At w) fun v9 => OpA 19 v9 fun cs4 => zB Tryz.prog 200 #[.slice ramsp ramsl ramsc, .agg cs4] w fun v10 w
 => OpI .i64 v10 fun n7 => Ret [] (R (.int .i64 n7) w))) (0, ()) w)) (0, ()) w)
theorem HY {ramsp : Option Addr} {ramsl : Nat} {ramsc : Nat} {version : Int} {putsp : Option Addr} {putsl : Nat} {putsc : Nat} {w : World} {R : Value → World → Prop} (h : YM ramsp ramsl ramsc version putsp putsl putsc w R) : zB Tryz.prog 131 #[.slice ramsp ramsl ramsc, .int .u64 version, .slice putsp putsl putsc] w R := by
 exact zE (args := [.slice ramsp ramsl ramsc, .int .u64 version, .slice putsp putsl putsc]) (zR [(4, [(16, (.int .i64))]), (10, [(45, (.int .i64))])] [] [] [] []) zD Tryz.func131 rfl rfl (by kernel_rfl) h
def UJ (ramsp : Option Addr) (ramsl : Nat) (ramsc : Nat) (version : Int) (w : World) (R : Value → World → Prop) : Prop :=
 zB Tryz.prog 199 #[.slice ramsp ramsl ramsc] w fun v w => OpB v fun g => Cb g (Ret [] (R (.int .i64 2) w)) (DoQ Tryz.prog (Instr.build 246 #[(0, .int .i64 5), (1, .int
 .u64 version)]) (At w) fun v1 => OpA 19 v1 fun cs => zB Tryz.prog 200 #[.slice ramsp ramsl ramsc, .agg cs] w fun v2 w => OpI .i64 v2 fun n => Ret [] (R (.int .i64 n)
 w))
theorem L6 {ramsp : Option Addr} {ramsl : Nat} {ramsc : Nat} {version : Int} {w : World} {R : Value → World → Prop} (h : UJ ramsp ramsl ramsc version w R) : zB Tryz.prog 133 #[.slice ramsp ramsl ramsc, .int .u64 version] w R := by
 exact zE (args := [.slice ramsp ramsl ramsc, .int .u64 version]) (zR [] [] [] [] []) zD Tryz.func133 rfl rfl (by kernel_rfl) h
def YK (listp : Option Addr) (listl : Nat) (listc : Nat) (version : Int) (w : World) (R : Value → World → Prop) : Prop :=
 yC (σ := (Option Addr × Nat × Nat) × Int × Unit) (fun _ s1 w K1 => Cb (decide (s1.2.1 < ((listl : Nat) : Int))) (IdxS listp listl s1.2.1 19 fun b o => LdA 19 b o (At w)
 fun cs => Alc 246 (zc Tryz.prog 246) w fun b1 w => StA 19 b1 0 cs w fun w => LdV b1 0 (At w) fun v => OpI .i64 v fun n => Cb (n == 3) (LdV b1 1 (At w) fun v1 => OpI .u64
 v1 fun n1 => Cb (n1 == version) (LdV b1 2 (At w) fun v2 => OpI .i64 v2 fun n2 => Req ((1024 : Int) ≠ 0) (LdV b1 2 (At w) fun v3 => OpI .i64 v3 fun n3 => Req ((1024 : Int)
 ≠ 0) (DoQ Tryz.prog (Instr.build 84 #[(0, .int .i64 (IntKind.wrap .i64 (Int.tdiv n2 1024))), (1, .int .i64 (Int.tmod n3 1024))]) (At w) fun v4 => OpA 2 v4 fun cs1 => Alc
 84 (zc Tryz.prog 84) w fun b2 w => StA 2 b2 0 cs1 w fun w => xV (σ := (Option Addr × Nat × Nat) × Unit) (fun J2 => yJ w fun S w => LdA 2 b2 0 S fun cs2 => LdV b2 1 S
 fun v5 => OpI .i64 v5 fun n4 => LdA 16 b1 3 S fun cs3 => zB Tryz.prog 116 #[.int .i64 n4, .agg cs3] w fun v6 w => OpA 17 v6 fun cs4 => Hld (S w) (DoQ Tryz.prog
 (Instr.build 88 #[(0, .agg cs2), (1, .agg cs4)]) S fun v7 => OpA 19 v7 fun cs5 => DoV Tryz.prog (Instr.buildSlice 75 1 #[(0, .agg cs5)]) w fun v8 w => OpS v8 fun p l c =>
 Hld (S w) (DoV Tryz.prog (Builtin.append_ #[75, 75] 75 #[.slice s1.1.1 s1.1.2.1 s1.1.2.2, .slice p l c]) w fun v9 w => OpS v9 fun p1 l1 c1 => Hld (S w) (J2 ((p1, l1, c1),
 ()) w)))) (fun _ s2 w => K1 ((s2.1.1, s2.1.2.1, s2.1.2.2), (IntKind.wrap .i64 (s1.2.1 + 1), ())) w)))) (K1 ((s1.1.1, s1.1.2.1, s1.1.2.2), (IntKind.wrap .i64 (s1.2.1 + 1),
 ())) w)) (K1 ((s1.1.1, s1.1.2.1, s1.1.2.2), (IntKind.wrap .i64 (s1.2.1 + 1), ())) w)) (Ret [] (R (.slice s1.1.1 s1.1.2.1 s1.1.2.2) w))) ((none, 0, 0), (0, ())) w
theorem HW {listp : Option Addr} {listl : Nat} {listc : Nat} {version : Int} {w : World} {R : Value → World → Prop} (h : YK listp listl listc version w R) : zB Tryz.prog 202 #[.slice listp listl listc, .int .u64 version] w R := by
 exact zE (args := [.slice listp listl listc, .int .u64 version]) (XZ [(3, [(5, .slice), (11, (.int .i64))])] [] [] [] [37] [] [(7, [(5, .slice)])]) zD Tryz.func202 rfl rfl (by kernel_rfl) h
def wR (listsp : Option Addr) (listsl : Nat) (listsc : Nat) (w : World) (R : Value → World → Prop) : Prop :=
 DoV Tryz.prog (Instr.makeMap 297 none) w fun v w => OpM v fun m => zB Tryz.prog 201 #[.slice listsp listsl listsc] w fun v1 w => OpS v1 fun p l c => yC (σ := Int ×
 Unit) (fun _ s1 w K1 => Cb (decide (s1.1 < ((l : Nat) : Int))) (IdxS p l s1.1 19 fun b o => LdA 19 b o (At w) fun cs => Alc 246 (zc Tryz.prog 246) w fun b1 w => StA 19 b1
 0 cs w fun w => LdV b1 0 (At w) fun v2 => OpI .i64 v2 fun n => Cb (n == 5) (LdV b1 1 (At w) fun v3 => OpI .u64 v3 fun n1 => DoQ Tryz.prog (Instr.build 130 #[]) (At w) fun
 v4 => OpA 0 v4 fun cs1 => DoU Tryz.prog (Instr.mapUpdate 297 (.map m) (.int .u64 n1) (.agg cs1)) w fun w => K1 (IntKind.wrap .i64 (s1.1 + 1), ()) w) (K1 (IntKind.wrap .i64
 (s1.1 + 1), ()) w)) (DoV Tryz.prog (Instr.makeMap 298 none) w fun v5 w => OpM v5 fun m1 => yC (σ := Int × Unit) (fun _ s2 w K2 => Cb (decide (s2.1 < ((listsl : Nat) :
 Int))) (IdxS listsp listsl s2.1 1 fun b2 o1 => LdV b2 o1 (At w) fun v6 => OpS v6 fun p1 l1 c1 => yC (σ := Int × Unit) (fun _ s3 w K3 => Cb (decide (s3.1 < ((l1 : Nat) :
 Int))) (IdxS p1 l1 s3.1 19 fun b3 o2 => LdA 19 b3 o2 (At w) fun cs2 => Alc 246 (zc Tryz.prog 246) w fun b4 w => StA 19 b4 0 cs2 w fun w => LdV b4 0 (At w) fun v7 => OpI
 .i64 v7 fun n2 => Cb (n2 != 4) (K3 (IntKind.wrap .i64 (s3.1 + 1), ()) w) (LdV b4 1 (At w) fun v8 => OpI .u64 v8 fun n3 => DoQ Tryz.prog (Instr.lookup 297 (.map m) (.int
 .u64 n3) true) (At w) fun v9 => T2 v9 fun v10 v11 => OpA 0 v10 fun cs3 => OpB v11 fun g => Alc 130 (zc Tryz.prog 130) w fun b5 w => StA 0 b5 0 cs3 w fun w => LdV b4 1 (At
 w) fun v12 => OpI .u64 v12 fun n4 => DoQ Tryz.prog (Instr.lookup 298 (.map m1) (.int .u64 n4) true) (At w) fun v13 => T2 v13 fun v14 v15 => OpS v14 fun p2 l2 c2 => OpB v15
 fun g1 => Req ((!g) = (!g)) (Req ((!g) = (!g)) (Cb (cond (!g) (!g1) false) (yJ w fun S w => LdV b4 1 S fun v16 => OpI .u64 v16 fun n5 => Slc l1 c1 none (some s3.1) none
 fun l3 h m2 => LdV b4 1 (At w) fun v17 => OpI .u64 v17 fun n6 => zB Tryz.prog 202 #[.slice (slcP 19 l3 m2 p1) (h - l3) (m2 - l3), .int .u64 n6] w fun v18 w => OpS v18
 fun p3 l4 c3 => Hld (S w) (DoU Tryz.prog (Instr.mapUpdate 298 (.map m1) (.int .u64 n5) (.slice p3 l4 c3)) w fun w => Hld (S w) (K3 (IntKind.wrap .i64 (s3.1 + 1), ()) w)))
 (K3 (IntKind.wrap .i64 (s3.1 + 1), ()) w))))) (K2 (IntKind.wrap .i64 (s2.1 + 1), ()) w)) (0, ()) w) (DoV Tryz.prog (Instr.range 298 (.map m1)) w fun v19 w => OpN v19 fun
 b6 o3 => yC (σ := (Option Addr × Nat × Nat) × Unit) (fun _ s4 w K4 => DoV Tryz.prog (Instr.next (.pointer (some ⟨b6, o3, none⟩)) false 0) w fun v20 w => OpX v20 (fun k
 x => DoQ Tryz.prog (Instr.entry (.pointer (some ⟨b6, o3, none⟩))) (At w) fun v21 => T2 v21 fun v22 v23 => OpI .u64 v22 fun n7 => DoV Tryz.prog (Instr.buildSlice 302 1
 #[(0, .int .u64 n7)]) w fun v24 w => OpS v24 fun p4 l5 c4 => DoV Tryz.prog (Builtin.append_ #[302, 302] 302 #[.slice s4.1.1 s4.1.2.1 s4.1.2.2, .slice p4 l5 c4]) w fun v25
 w => OpS v25 fun p5 l6 c5 => K4 ((p5, l6, c5), ()) w) (zB Tryz.prog 203 #[.slice s4.1.1 s4.1.2.1 s4.1.2.2] w fun v26 w => yC (σ := (Option Addr × Nat × Nat) × Int ×
 Unit) (fun _ s5 w K5 => Cb (decide (s5.2.1 < ((s4.1.2.1 : Nat) : Int))) (IdxS s4.1.1 s4.1.2.1 s5.2.1 1 fun b7 o4 => LdV b7 o4 (At w) fun v27 => OpI .u64 v27 fun n8 => DoQ
 Tryz.prog (Instr.lookup 298 (.map m1) (.int .u64 n8) false) (At w) fun v28 => OpS v28 fun p6 l7 c6 => DoV Tryz.prog (Builtin.append_ #[75, 75] 75 #[.slice s5.1.1 s5.1.2.1
 s5.1.2.2, .slice p6 l7 c6]) w fun v29 w => OpS v29 fun p7 l8 c7 => K5 ((p7, l8, c7), (IntKind.wrap .i64 (s5.2.1 + 1), ())) w) (Ret [] (R (.slice s5.1.1 s5.1.2.1 s5.1.2.2)
 w))) ((none, 0, 0), (0, ())) w)) ((none, 0, 0), ()) w)) (0, ()) w)) (0, ()) w
theorem U4 {listsp : Option Addr} {listsl : Nat} {listsc : Nat} {w : World} {R : Value → World → Prop} (h : wR listsp listsl listsc w R) : zB Tryz.prog 132 #[.slice listsp listsl listsc] w R := by
 exact zE (args := [.slice listsp listsl listsc]) (zR [(3, [(24, (.int .i64))]), (10, [(39, (.int .i64))]), (13, [(45, (.int .i64))]), (24, [(15, .slice)]), (30, [(17, .slice), (98, (.int .i64))])] [] [] [(88, ((.int .u64), .any))] [81]) zD Tryz.func132 rfl rfl (by kernel_rfl) h
def WW (s : Array Value) (epoch : Int) (listsp : Option Addr) (listsl : Nat) (listsc : Nat) (w : World) (R : Value → World → Prop) : Prop :=
 Alc 51 s w fun b w => LdA 4 b 0 (At w) fun cs => zB Tryz.prog 93 #[.agg cs] w fun v w => OpI .i64 v fun n => Cb (n != 0) (Ret [] (R (.int .i64 n) w)) (xV (σ := Int ×
 Unit) (fun J1 => yJ w fun S w => LdA 4 b 0 S fun cs1 => zB Tryz.prog 132 #[.slice listsp listsl listsc] w fun v1 w => OpS v1 fun p l c => Hld (S w) (zB Tryz.prog
 38 #[.agg cs1, .slice p l c, .int .u32 epoch] w fun v2 w => OpI .i64 v2 fun n1 => Hld (S w) (J1 (n1, ()) w))) (fun _ s1 w => Ret [] (R (.int .i64 s1.1) w)))
theorem OW {s : Array Value} {epoch : Int} {listsp : Option Addr} {listsl : Nat} {listsc : Nat} {w : World} {R : Value → World → Prop} (h : WW s epoch listsp listsl listsc w R) : zB Tryz.prog 61 #[.agg s, .int .u32 epoch, .slice listsp listsl listsc] w R := by
 exact zE (args := [.agg s, .int .u32 epoch, .slice listsp listsl listsc]) (XZ [] [] [] [] [15, 17] [] [(4, [(6, (.int .i64))])]) zD Tryz.func61 rfl rfl (by kernel_rfl) h
end Go.Proofs
namespace Go.Proofs
open Go Go.Ev Go.ChangeShapes Go.WideShapes Go.ChangeAt Go.RowKit
section
variable {H : Type} {enc : TypeId × Value → H} {P : Program}
theorem XO (hl : laidOutB P = true) {W W' : World} (hb : Below W.heap.size W W') : ∀ (ts : List TypeId) (vs : List Value) (ds : List (DataW H)) (ps : List MemPlace), (∀ t ∈ ts, P.readableRec t = true ∧ t < P.types.size) →
  DataW.TrodAll enc P W 0 (fun _ => true) true ts vs ds ps → (∀ x ∈ ps, x.block < W.heap.size) → DataW.TrodAll enc P W' 0 (fun b => decide (b < W.heap.size)) true ts vs ds ps
 | [], [], [], ps, _, h, _ => h
 | t :: ts, v :: vs, d :: ds, ps, ht, h, hlt => by
  obtain ⟨p, q, h1, h2, rfl⟩ := h
  have := ht t (by simp)
  exact ⟨p, q, Below.trod hl this.1 this.2 h1 hb (fun x hx => hlt x (by simp [hx])), XO hl hb ts vs ds q (fun t' h' => ht t' (by simp [h'])) h2 (fun x hx => hlt x (by simp [hx])), rfl⟩
 | [], _ :: _, _, _, _, h, _ => h.elim
 | [], [], _ :: _, _, _, h, _ => h.elim
 | _ :: _, [], _, _, _, h, _ => h.elim
 | _ :: _, _ :: _, [], _, _, h, _ => h.elim
theorem post_below {f : Func} {s : ChangeSpec} {tb : TypeId} {W W' : World} {args : Array Value} {ds gs : List (DataW H)} {before : List MemPlace} (hW : DataW.Whole enc P f.params.toList s.vars false W args.toList ds gs before)
  (hl : laidOutB P = true) (hr : f.resultTypes = #[tb]) (ht : P.underlying tb = some .bool) (hv : s.vars = []) (hs : s.fn H ds = { results := [.lit (.bool true)], args := ds })
  (hp : ∀ t ∈ f.params.toList, P.readableRec t = true ∧ t < P.types.size) (hb : Below W.heap.size W W') : s.post enc P f false true false false W args (.bool true) W' := by
 have hW' := hW
 obtain ⟨p, q, hA, hV, rfl, hfz, hnd⟩ := hW
 rw [hv] at hV
 obtain ⟨rfl, rfl⟩ := trodVars_none hV
 refine ⟨ds, [], p ++ [], [], p, [], hW', ?_, ?_, ?_, World.keptBut_mono (fun x hx => hx) (hb.frame _), fun h => by cases h⟩
 ·simp only [List.append_nil, hs, hr]
  exact trodAll_cons_mk (shut_bool ht _) trodAll_mk0
 ·simp only [List.append_nil, hs]
  exact XO hl hb _ _ _ _ hp hA (fun x hx => hW'.lt x (by simp [hx]))
 ·simp only [List.append_nil, hs, hv]
  exact rfl
theorem mapM_each {α β : Type} {f : α → Option β} : ∀ {l : List α} {ys : List β}, l.mapM f = some ys → ∀ a ∈ l, ∃ y, f a = some y
 | [], _, _, a, ha => by simp at ha
 | b :: l, ys, h, a, ha => by
  rw [List.mapM_cons] at h
  simp only [bind, Option.bind_eq_some_iff, pure, Option.some.injEq] at h
  obtain ⟨y, h1, ys', h2, rfl⟩ := h
  rcases List.mem_cons.1 ha with rfl | ha
  ·exact ⟨y, h1⟩
  ·exact mapM_each h2 a ha
theorem KT {ks : List CK} : ∀ (n a : Nat) (cs : List Value), cs.length = (a + n) * ks.length → (∀ i, i < n → Fits ks ((cs.drop ((a + i) * ks.length)).take ks.length)) → Fits (List.replicate n ks).flatten (cs.drop (a * ks.length))
 | 0, a, cs, hl, _ => by
  have : cs.drop (a * ks.length) = [] := List.drop_eq_nil_of_le (by rw [hl]; simp)
  rw [this]; simp [Fits]
 | n + 1, a, cs, hl, h => by
  rw [List.replicate_succ, List.flatten_cons]
  have h0 := h 0 (by omega)
  have hr := KT n (a + 1) cs (by rw [hl]; congr 1; omega) (fun i hi => by have := h (i + 1) (by omega); rw [show a + (i + 1) = a + 1 + i by omega] at this; exact this)
  rw [Nat.add_zero] at h0
  have := h0.append hr
  rw [Nat.add_mul, Nat.one_mul, ← List.drop_drop, List.take_append_drop] at this
  exact this
variable {w : World} {base : Nat} {spare : Nat → Bool} {held : Bool}
theorem gP : ∀ {d : Nat} {t : TypeId} {ks : List CK} {fuel : Nat} {cs : List Value} {x : DataW H × List MemPlace}, flat P d t = some ks → DataW.trod enc P w base spare held fuel t cs = some x → Fits ks cs
 | 0, _, _, _, _, _, h, _ => by simp [flat] at h
 | d + 1, t, ks, fuel, cs, x, h, ht => by
  unfold flat at h
  cases hu : P.underlying t with
  | none => simp [hu] at h
  | some kd =>
   cases kd
   case bool =>
    simp only [hu, Option.some.injEq] at h
    subst h
    cases fuel with
    | zero => simp [DataW.trod] at ht
    | succ fuel =>
     unfold DataW.trod at ht
     rw [hu] at ht
     split at ht <;> simp_all
     exact ⟨⟨_, rfl⟩, trivial⟩
   case int k =>
    simp only [hu, Option.some.injEq] at h
    subst h
    obtain ⟨n, rfl, _, hw⟩ := DataW.trod_int hu ht
    simp only [Lit.wf, Bool.and_eq_true, decide_eq_true_eq] at hw
    exact ⟨⟨n, rfl, hw⟩, trivial⟩
   case array n e =>
    simp only [hu, Option.bind_eq_some_iff] at h
    obtain ⟨ks', he, h⟩ := h
    split at h
    ·rename_i hc
     obtain ⟨hc1, hc2⟩ := hc
     simp only [Option.some.injEq] at h
     subst h
     obtain ⟨xs, m, rfl, rfl, hl, hxs, hi⟩ := DataW.trod_array hu ht
     have := KT (ks := ks') n 0 cs (by rw [hl, hc2, Nat.zero_add]) (fun i hlt => by
      have := hi i hlt
      rw [List.getElem?_eq_getElem (by omega)] at this
      have hf := gP he this
      rw [hc1, Nat.zero_add]
      exact hf)
     simpa using this
    ·cases h
   case struct fs =>
    replace h : (if fs.all (fun g => g.name != "_") = true then (flat.go P (flat P d) fs.toList 0).bind (fun ks => if ks.length = P.cellsOf t then some ks else none) else none) = some ks := by simpa only [hu] using h
    split at h
    ·simp only [Option.bind_eq_some_iff] at h
     obtain ⟨ks', hg, h⟩ := h
     split at h
     ·rename_i hc
      simp only [Option.some.injEq] at h
      subst h
      obtain ⟨xs, m, rfl, rfl, hl, hxs, hi⟩ := DataW.trod_struct hu ht
      have each : ∀ f ∈ fs.toList, ∀ kf, flat P d f.type = some kf → Fits kf ((cs.drop f.offset).take (P.cellsOf f.type)) := by
       intro f hf kf hk
       obtain ⟨i, hi'⟩ := List.getElem?_of_mem hf
       have h1 : fs[i]? = some f := by simpa using hi'
       have := hi i f h1
       have hlt := (Array.getElem?_eq_some_iff.1 h1).1
       rw [List.getElem?_eq_getElem (by omega)] at this
       exact gP hk this
      have key : ∀ (fs : List Field) (off : Nat) (ks : List CK), flat.go P (flat P d) fs off = some ks → off + ks.length = cs.length → (∀ f ∈ fs, ∀ kf, flat P d f.type = some kf → Fits kf ((cs.drop f.offset).take (P.cellsOf f.type))) →
        Fits ks (cs.drop off) := by
       intro fs
       induction fs with
       | nil =>
        intro off ks h hl _
        simp only [flat.go, Option.some.injEq] at h
        subst h
        rw [List.drop_eq_nil_of_le (by simp at hl; omega)]
        trivial
       | cons f fs ih =>
        intro off ks h hl he
        simp only [flat.go, Option.bind_eq_some_iff] at h
        obtain ⟨kf, hk, h⟩ := h
        split at h
        ·rename_i hc
         obtain ⟨hc1, hc2⟩ := hc
         simp only [Option.map_eq_some_iff] at h
         obtain ⟨kr, hr, rfl⟩ := h
         rw [List.length_append] at hl
         have h2 := ih _ _ hr (by omega) (fun g hg => he g (by simp [hg]))
         have h1 := he f (by simp) kf hk
         rw [hc1, ← hc2] at h1
         have := h1.append h2
         rw [← List.drop_drop, List.take_append_drop] at this
         exact this
        ·cases h
      have := key fs.toList 0 ks' hg (by omega) each
      simpa using this
     ·cases h
    ·cases h
   all_goals (simp [hu] at h; done)
def Sl (W : World) (n : Nat) (xp : Option Addr) (l : Nat) (g : Nat → List Value) : Prop :=
 ∀ i, i < l → (g i).length = n ∧ ∃ b o, xp = some ⟨b, o, none⟩ ∧ ∀ j, j < n → W.cell? ⟨b, o + i * n + j, none⟩ = (g i)[j]?
theorem Sl.keep {S : Nat → Prop} {W W' : World} {n : Nat} {xp : Option Addr} {l : Nat} {g : Nat → List Value} (h : Sl W n xp l g) (hk : Keep S W W') (hS : ∀ k, k < W.heap.size → ¬ S k) : Sl W' n xp l g := by
 intro i hi
 obtain ⟨h1, b, o, rfl, h2⟩ := h i hi
 refine ⟨h1, b, o, rfl, fun j hj => ?_⟩
 have := h2 j hj
 rw [← this]
 rw [List.getElem?_eq_getElem (by omega)] at this
 have hb : b < W.heap.size := by
  unfold World.cell? at this
  cases hh : W.heap[b]? with
  | none => simp [hh] at this
  | some x => exact (Array.getElem?_eq_some_iff.1 hh).1
 exact World.cell?_of_block (w := W) (hk.block b hb (hS b hb))
theorem Sl.idx {W : World} {n : Nat} {xp : Option Addr} {l : Nat} {g : Nat → List Value} (h : Sl W n xp l g) {i : Int} (h0 : 0 ≤ i) (h1 : i < l) {K : Nat → Nat → Prop}
  (hK : ∀ b o, (∀ j, j < n → W.cell? ⟨b, o + j, none⟩ = (g i.toNat)[j]?) → (g i.toNat).length = n → K b o) : IdxS xp l i n K := by
 obtain ⟨h2, b, o, rfl, h3⟩ := h i.toNat (by omega)
 exact ⟨b, o, rfl, h0, h1, hK _ _ h3 h2⟩
theorem Sl.ld {W : World} {xp : Option Addr} {l : Nat} {g : Nat → List Value} {v : Nat → Value} (h : Sl W 1 xp l g) (hg : ∀ i, i < l → g i = [v i]) {i : Int} (h0 : 0 ≤ i) (h1 : i < l) {K : Value → Prop} (hK : K (v i.toNat)) :
  IdxS xp l i 1 fun b o => LdV b o (At W) K :=
 h.idx h0 h1 fun b o hc _ => by
  refine LW.2 ⟨v i.toNat, ?_, hK⟩
  have := hc 0 (by omega)
  rw [hg i.toNat (by omega)] at this
  simpa using this
theorem Sl.zPh {W : World} {xp : Option Addr} {l : Nat} {g : Nat → List Value} (h : Sl W 1 xp l g) {i : Int} (h0 : 0 ≤ i) (h1 : i < l) {v : Value} (hg : g i.toNat = [v]) {K : Value → Prop} :
  (IdxS xp l i 1 fun b o => LdV b o (At W) K) ↔ K v := by
 obtain ⟨h2, b, o, rfl, h3⟩ := h i.toNat (by omega)
 have hc : W.cell? ⟨b, o + i.toNat * 1, none⟩ = some v := by
  have := h3 0 (by omega)
  rw [hg] at this
  simpa using this
 constructor
 ·rintro ⟨b', o', hp, _, _, hK⟩
  cases hp
  obtain ⟨v', hv, hK⟩ := LW.1 hK
  rw [hc] at hv
  cases hv
  exact hK
 ·exact fun hK => ⟨b, o, rfl, h0, h1, LW.2 ⟨_, hc, hK⟩⟩
end
end Go.Proofs
namespace Go.Proofs
open Go Go.Ev
set_option maxRecDepth 100000
theorem yL (d : List Rec) : d.flatMap recL = (d.map recL).flatten := by rw [List.flatMap_def]
theorem y8 (d : List Rec) : ∀ r ∈ d.map recL, r.length = 19 := by
 intro r hr
 obtain ⟨x, _, rfl⟩ := List.mem_map.1 hr
 rfl
def OJ (w : World) (p : Option Addr) (l : Nat) (rs : List Rec) : Prop := l = rs.length ∧ Sl w 19 p l fun i => recL (rs.getD i default)
def zAk (w : World) (xp : Option Addr) (n : Nat) (rss : List (List Rec)) : Prop :=
 n = rss.length ∧ ∃ P : Nat → Option Addr × Nat × Nat, Sl w 1 xp n (fun i => [.slice (P i).1 (P i).2.1 (P i).2.2]) ∧ ∀ i, i < n → OJ w (P i).1 (P i).2.1 (rss.getD i [])
theorem OJ.keep {S : Nat → Prop} {w w' : World} {p : Option Addr} {l : Nat} {rs : List Rec} (h : OJ w p l rs) (hk : Keep S w w') (hS : ∀ k, k < w.heap.size → ¬ S k) : OJ w' p l rs := ⟨h.1, h.2.keep hk hS⟩
theorem zAk.keep {S : Nat → Prop} {w w' : World} {xp : Option Addr} {n : Nat} {rss : List (List Rec)} (h : zAk w xp n rss) (hk : Keep S w w') (hS : ∀ k, k < w.heap.size → ¬ S k) : zAk w' xp n rss := by
 obtain ⟨h1, P, h2, h3⟩ := h
 exact ⟨h1, P, h2.keep hk hS, fun i hi => (h3 i hi).keep hk hS⟩
theorem zJ8 : ∃ i, Tryz.prog.info? 246 = some i := ⟨(Tryz.prog.info? 246).get (by kernel_rfl), by kernel_rfl⟩
theorem OJ.cells {w : World} {p : Option Addr} {l : Nat} {rs : List Rec} (h : OJ w p l rs) (h0 : 0 < l) : ∃ b o, p = some ⟨b, o, none⟩ ∧ ∀ j u, (rs.flatMap recL)[j]? = some u → w.cell? ⟨b, o + j, none⟩ = some u := by
 obtain ⟨hl, hs⟩ := h
 obtain ⟨_, b, o, hp, _⟩ := hs 0 h0
 refine ⟨b, o, hp, fun j u hj => ?_⟩
 have hjl : j < rs.length * 19 := by
  have := (List.getElem?_eq_some_iff.1 hj).1
  rwa [yL, vI (y8 _), List.length_map] at this
 obtain ⟨_, b', o', hp', hc⟩ := hs (j / 19) (by omega)
 rw [hp] at hp'
 cases hp'
 have h1 := hc (j % 19) (by omega)
 have h2 : j / 19 < rs.length := by omega
 have h3 := ZM (y8 rs) (i := j / 19) (r := recL rs[j / 19]) (by simp [h2]) (j % 19) (by omega)
 rw [← yL, show j / 19 * 19 + j % 19 = j by omega, hj] at h3
 rw [show o + j = o + j / 19 * 19 + j % 19 by omega, h1, h3]
 simp [List.getD, h2]
theorem zKa {w : World} {base : Nat} {p : Option Addr} {l c : Nat} {rs : List Rec} (h : Own w base 246 19 p l c (rs.flatMap recL)) {p2 : Option Addr} {l2 c2 : Nat} {rs2 : List Rec} (h2 : OJ w p2 l2 rs2)
  (hl : l + l2 ≤ 1000000000) (hbase : base ≤ w.heap.size) :
  ∃ p' c' w', (Builtin.append_ #[113, 113] 113 #[.slice p l c, .slice p2 l2 c2]).run Tryz.prog w = .ok (.slice p' (l + l2) c') w' ∧
   Own w' base 246 19 p' (l + l2) c' ((rs ++ rs2).flatMap recL) ∧ Keep (fun k => p = some ⟨k, 0, none⟩) w w' := by
 by_cases h0 : 0 < l2
 ·obtain ⟨b, o, rfl, hc⟩ := h2.cells h0
  have hlen : (rs2.flatMap recL).length = l2 * 19 := by rw [yL, vI (y8 _), List.length_map, h2.1]
  have := q9 (P := Tryz.prog) (t := 113) (ty := 113) (i := ((Tryz.prog.info? 246).get (by kernel_rfl))) (z := ((((Tryz.prog.info? 246).get (by kernel_rfl)).zero).get (by kernel_rfl))) (size := 19) (bytes := 40) (by kernel_rfl) (by kernel_rfl) (by kernel_rfl) (by kernel_rfl) (by kernel_rfl) (by kernel_rfl) (by decide) h
   (a := ⟨b, o, none⟩) (m := l2) (c2 := c2) (news := rs2.flatMap recL) hlen (fun jj u hu => by
    have : Addr.add ⟨b, o, none⟩ jj = ⟨b, o + jj, none⟩ := by unfold Addr.add; split <;> simp_all
    rw [this]
    exact hc jj u hu) (fun u hu => by obtain ⟨r, _, hr⟩ := List.mem_flatMap.1 hu; exact Q6 r u hr) (by omega) (by simp [maxLen]; omega) hbase
  simpa using this
 ·have hz : l2 = 0 := by omega
  subst hz
  have hrs : rs2 = [] := List.eq_nil_of_length_eq_zero h2.1.symm
  subst hrs
  refine ⟨p, c, w, ?_, by simpa using h, Keep.refl _ _⟩
  have hle : l ≤ c := by
   rcases h.cases with ⟨_, rfl, rfl, _⟩ | ⟨b, cur, _, _, _, hle, _⟩
   ·exact Nat.le_refl _
   ·exact hle
  have ht : Tryz.prog.underlying 113 = some (.slice 246) := by kernel_rfl
  obtain ⟨i, hi⟩ := zJ8
  have hsrc : ∀ q : Option Addr, Src Tryz.prog i.size 113 (.slice q 0 c2) 0 [] w := by
   intro q
   cases q with
   | none => exact Src.ofNil (e' := 246) w ht c2
   | some a => exact Src.ofSlice (e' := 246) w ht a 0 c2 [] (by simp) (fun j u h => by simp at h) (fun u h => by simp at h)
  exact run_append_nothing w _ _ _ _ i ht hi p l c hle _ (hsrc p2)
theorem zJg {n : Int} (h0 : 0 ≤ n) (h1 : n ≤ 1000000000) {w : World} {R : Value → World → Prop}
  (hK : ∀ p c w', Own w' w.heap.size 246 19 p 0 c [] → Keep (fun _ => False) w w' → R (.slice p 0 c) w') :
  zB Tryz.prog 249 #[.slice none 0 0, .int .i64 n] w R := by
 apply Z0
 unfold kE
 rw [show decide (n < 0) = false by simp; omega, zH]
 have ew : IntKind.wrap .i64 (n - IntKind.wrap .i64 (((0 : Nat) : Int) - ((0 : Nat) : Int))) = n := by
  rw [show IntKind.wrap .i64 (((0 : Nat) : Int) - ((0 : Nat) : Int)) = 0 from rfl, Int.sub_zero]
  exact zW (by omega) (by omega)
 rw [ew]
 refine zN (fun hn => ?_) (fun hn => ?_)
 ·have hn' : 0 < n := by simpa using hn
  refine ⟨by decide, by decide, by decide, by decide, ?_⟩
  have hnn : n = ((n.toNat : Nat) : Int) := by omega
  have hr := Lib.run_append_nil_zeros (P := Tryz.prog) w 113 3 113 246 ((Tryz.prog.info? 246).get (by kernel_rfl)) ((((Tryz.prog.info? 246).get (by kernel_rfl)).zero).get (by kernel_rfl)) .i64 .i64 (by kernel_rfl) (by kernel_rfl) (by kernel_rfl) (by kernel_rfl)
   n.toNat (by omega) (by decide +kernel) (by omega) (by rw [show ((Tryz.prog.info? 246).get (by kernel_rfl)).bytes = 40 by kernel_rfl]; omega)
  rw [← hnn] at hr
  refine ⟨_, _, hr, ?_⟩
  simp only [zC]
  have hge := grownCap_ge w n.toNat 0 246
  have hcm : grownCap w n.toNat 0 246 ≤ maxLen := grownCap_le_maxLen w n.toNat 0 246 (by simp [maxLen]; omega)
  generalize grownCap w n.toNat 0 246 = cp at *
  refine ⟨by simp, by simp, by simp, by simp, ?_⟩
  simp only [zF, Option.getD_none, Option.getD_some, Int.toNat_zero, Int.toNat_natCast, Nat.sub_zero]
  have hs : slcP 19 0 cp (some ⟨w.heap.size, 0, none⟩) = some ⟨w.heap.size, 0, none⟩ := by
   unfold slcP
   split
   ·rfl
   ·simp [Addr.add]
  refine (congrArg (fun q => R (Value.slice q 0 cp) _) hs).mpr ?_
  refine hK _ _ _ (Own.mk (Nat.le_refl _) (Has.new _ _) (by omega) hcm ?_ (by simp)) ?_
  ·rw [Array.size_append, size_zeroCells, size_zeroCells, show ((((Tryz.prog.info? 246).get (by kernel_rfl)).zero).get (by kernel_rfl)).cells.size = 19 by kernel_rfl, ← Nat.add_mul]
   congr 1; omega
  ·exact (Keep.refl (fun _ => False) w).trans ⟨rfl, rfl, rfl, by simp, fun k hk _ => by show (w.heap.push _)[k]? = _; rw [Array.getElem?_push, if_neg (by omega)]⟩
 ·simp only [zF]
  exact hK none 0 w (Own.nil _ _ _ _) (Keep.refl _ _)
def total (rss : List (List Rec)) : Nat := rss.flatten.length
theorem XP {rss : List (List Rec)} {j : Nat} (h : j < rss.length) : (rss.take (j + 1)).flatten = (rss.take j).flatten ++ rss.getD j [] := by
 rw [List.take_add_one, List.flatten_append]
 simp [List.getD, h]
theorem total_take {rss : List (List Rec)} (j : Nat) : (rss.take j).flatten.length ≤ total rss := by
 unfold total
 conv => rhs; rw [← List.take_append_drop j rss, List.flatten_append, List.length_append]
 omega
theorem YZ {xp : Option Addr} {n c : Nat} {rss : List (List Rec)} {w : World} {R : Value → World → Prop} (h : zAk w xp n rss) (hn : n ≤ 1000000000) (ht : total rss ≤ 1000000000)
  (hK : ∀ p l cp w', Own w' w.heap.size 246 19 p l cp (rss.flatten.flatMap recL) → Keep (fun _ => False) w w' → R (.slice p l cp) w') :
  zB Tryz.prog 201 #[.slice xp n c] w R := by
 apply wW
 unfold uF
 obtain ⟨hl, P, hP, hr⟩ := id h
 have ld : ∀ {w' : World}, Keep (fun _ => False) w w' → ∀ j : Nat, j < n → ∀ K : Value → Prop, K (.slice (P j).1 (P j).2.1 (P j).2.2) → IdxS xp n (j : Int) 1 fun b o => LdV b o (At w') K := by
  intro w' hk j hj K hK
  exact ((hP.keep hk (by simp)).zPh (i := (j : Int)) (by omega) (by omega) (v := .slice (P j).1 (P j).2.1 (P j).2.2) (by simp)).2 hK
 refine zP (σ := Int × Int × Unit) (fun s w' => w' = w ∧ ∃ j : Nat, s.2.1 = j ∧ j ≤ n ∧ s.1 = ((rss.take j).flatten.length : Int)) (fun s _ => (n - s.2.1).toNat) ⟨rfl, 0, rfl, by omega, by simp⟩ ?_
 intro _ s w1 hs
 obtain ⟨sz, i, u⟩ := s
 obtain ⟨rfl, j, hij, hjn, hsz⟩ := hs
 simp only at hij hsz ⊢
 subst hij hsz
 refine zN (fun hc => ?_) (fun hc => ?_)
 ·have hj : j < n := by simp only [decide_eq_true_eq] at hc; omega
  refine ld (Keep.refl _ _) j hj _ ?_
  simp only [zC]
  have e1 := XP (rss := rss) (j := j) (by omega)
  have e2 := total_take (rss := rss) (j + 1)
  rw [e1, List.length_append] at e2
  have e3 := (hr j hj).1
  have ew : IntKind.wrap .i64 (((rss.take j).flatten.length : Int) + ((P j).2.1 : Int)) = ((rss.take (j + 1)).flatten.length : Int) := by
   rw [zW (by omega) (by omega), e1, List.length_append, e3]; omega
  rw [ew, show decide (((rss.take (j + 1)).flatten.length : Int) < 0) = false by simp, zH]
  have ew2 : IntKind.wrap .i64 ((j : Int) + 1) = ((j + 1 : Nat) : Int) := by rw [zW (by omega) (by omega)]; omega
  rw [ew2]
  exact ⟨_, by omega, ⟨trivial, j + 1, rfl, hj, rfl⟩, rfl⟩
 ·have hj : j = n := by simp only [decide_eq_false_iff_not] at hc; omega
  subst hj
  refine zJg (by omega) (by have := total_take (rss := rss) j; omega) fun p c' w2 ho k2 => ?_
  simp only [zC]
  refine zP (σ := (Option Addr × Nat × Nat) × Int × Unit) (fun s w' => ∃ i : Nat, s.2.1 = i ∧ i ≤ j ∧ Keep (fun _ => False) w1 w' ∧ Own w' w1.heap.size 246 19 s.1.1 s.1.2.1 s.1.2.2 ((rss.take i).flatten.flatMap recL)) (fun s _ => (j - s.2.1).toNat)
   ⟨0, rfl, by omega, k2, by simpa using ho⟩ ?_
  intro _ s w3 hs
  obtain ⟨⟨q, l, cq⟩, i, u⟩ := s
  obtain ⟨i, hij, hin, k3, ho3⟩ := hs
  simp only at hij ho3 ⊢
  subst hij
  refine zN (fun hc => ?_) (fun hc => ?_)
  ·have hi : i < j := by simp only [decide_eq_true_eq] at hc; omega
   refine ld k3 i hi _ ?_
   simp only [zC]
   have e1 := XP (rss := rss) (j := i) (by omega)
   have e2 := total_take (rss := rss) (i + 1)
   rw [e1, List.length_append] at e2
   have e3 := (hr i hi).1
   have hlq : l = (rss.take i).flatten.length := by
    have h5 := ho3
    rw [yL] at h5
    have h6 := h5.count (y8 _) (by decide)
    rwa [List.length_map] at h6
   obtain ⟨p', c2, w4, hr4, ho4, k4⟩ := zKa (c2 := (P i).2.2) ho3 ((hr i hi).keep k3 (by simp)) (by omega) (by have := k3.size; omega)
   refine ⟨_, _, hr4, ?_⟩
   simp only [zC]
   have ew2 : IntKind.wrap .i64 ((i : Int) + 1) = ((i + 1 : Nat) : Int) := by rw [zW (by omega) (by omega)]; omega
   rw [ew2]
   refine ⟨_, by omega, ⟨i + 1, rfl, hi, k3.trans' k4 (fun k hk hp => by have := (ho3.lt hp).1; omega), by rw [e1]; exact ho4⟩, rfl⟩
  ·have hi : i = j := by simp only [decide_eq_false_iff_not] at hc; omega
   subst hi
   simp only [zF]
   have : rss.take i = rss := by rw [hl]; simp
   rw [this] at ho3
   exact hK q l cq w3 ho3 k3
end Go.Proofs
namespace Go.Proofs
open Go Go.Ev Go.RowKit
set_option maxRecDepth 100000
theorem zKw (x : Rec) : (zY x).length = 37 := rfl
section calls
variable {w : World} {R : Value → World → Prop} {base m r : Nat} {size : Int} {p : Option Addr} {l c : Nat} {bs : List Int} {pw : Pow} {rp : Option Addr} {rc : Nat}
theorem KP {rs : List Nat} {rl : Nat} (h : SlL dLay w rp rl rs) (hl : rl ≤ 1000000) (hK : R (.bool false) w) : zB Tryz.prog 199 #[.slice rp rl rc] w R := by
 apply U3
 unfold wQ
 apply OY
 unfold WY
 apply zE3
 unfold NH
 have hlen := h.1
 refine zP (σ := Int × Unit) (fun st w' => w' = w ∧ ∃ i : Nat, st.1 = (i : Int) ∧ i ≤ rl) (fun st _ => ((rl : Int) - st.1).toNat) ⟨rfl, 0, rfl, by omega⟩ ?_
 rintro _ ⟨i, u⟩ w1 ⟨rfl, i', hi, hil⟩
 simp only at hi ⊢
 subst hi
 refine zN (fun hc => ?_) (fun hc => ?_)
 ·have hc : i' < rl := by
   have : (i' : Int) < (rl : Int) := by simpa using hc
   omega
  have ek : IntKind.wrap .i64 ((i' : Int) + 1) = ((i' + 1 : Nat) : Int) := by rw [zW (by omega) (by omega)]; omega
  obtain ⟨y, hy⟩ : ∃ y, rs[i']? = some y := ⟨_, List.getElem?_eq_getElem (by omega)⟩
  refine h.ld0 (i := (i' : Int)) (n := 1) (x := y) (v := .pointer (some ⟨y, 0, none⟩)) rfl (by omega) (by rw [Int.toNat_natCast]; exact hy) rfl (zO.2 ?_)
  exact ⟨_, by show ((rl : Int) - IntKind.wrap .i64 ((i' : Int) + 1)).toNat < ((rl : Int) - (i' : Int)).toNat; rw [ek]; omega, ⟨by first | rfl | trivial, i' + 1, ek, by omega⟩, rfl⟩
 ·exact zF.2 (zA.2 (zF.2 (zM.2 (zF.2 hK))))
def recI (v : Int) (x : PutS) : Rec := ⟨3, v, x.plc.dk * 1024 + x.plc.at_, x.cel.data⟩
def recK (k v : Int) : Rec := ⟨k, v, 0, sec []⟩
theorem zLh (k v : Int) (w : World) : (Instr.build 246 #[(0, .int .i64 k), (1, .int .u64 v)]).run Tryz.prog w = .ok (.agg (recV (recK k v))) w := run_build _ _ _ _ (by kernel_rfl)
theorem zO9 : (zc Tryz.prog 88).size = 19 := by kernel_rfl
theorem zP4 (x : PutS) : (kP x).extract 2 (2 + 16) = secV x.cel.data := by kernel_rfl
theorem zKu (x : PutS) : (jM.row x).toArray = kP x := by kernel_rfl
def InR (x : PutS) : Prop := (0 ≤ x.plc.dk ∧ x.plc.dk < 32) ∧ (0 ≤ x.plc.at_ ∧ x.plc.at_ < 1024)
end calls
def putR (x : Rec) : PutS := ⟨⟨x.lba / 1024, x.lba % 1024⟩, ⟨x.data, sumS (x.lba % 1024) x.data⟩⟩
def isI (v : Int) (x : Rec) : Bool := x.kind == 3 && x.ver == v
def grp (v : Int) (rs : List Rec) : List PutS := (rs.filter (isI v)).map putR
theorem zQ5 (x : PutS) (w : World) : (Instr.build 88 #[(0, .agg (plcV x.plc)), (1, .agg (celV x.cel))]).run Tryz.prog w = .ok (.agg (kP x)) w := run_build _ _ _ _ (by kernel_rfl)
theorem O5 (x : Rec) : (rLay.row x).toArray = recV x := by kernel_rfl
theorem zOz (x : Rec) : (recV x).extract 3 (3 + 16) = secV x.data := by kernel_rfl
section group
variable {w : World} {R : Value → World → Prop}
theorem zMv {p : Option Addr} {l c : Nat} {rs : List Rec} {v : Int} (h : SlL rLay w p l rs) (hl : l ≤ 100000) (hlba : ∀ x ∈ rs, 0 ≤ x.lba ∧ x.lba ≤ 2147483647)
  (hK : ∀ p' c' w', OwnL jM w' w.heap.size 88 p' (grp v rs).length c' (grp v rs) → Keep (fun _ => False) w w' → R (.slice p' (grp v rs).length c') w') :
  zB Tryz.prog 202 #[.slice p l c, .int .u64 v] w R := by
 apply HW
 unfold YK
 have hlen := h.1
 refine zP (σ := (Option Addr × Nat × Nat) × Int × Unit) (fun st w' => ∃ i : Nat, st.2.1 = (i : Int) ∧ i ≤ l ∧ OwnL jM w' w.heap.size 88 st.1.1 st.1.2.1 st.1.2.2 (grp v (rs.take i)) ∧ Keep (fun _ => False) w w') (fun st _ => ((l : Int) - st.2.1).toNat)
  ⟨0, rfl, by omega, OwnL.nil, Keep.refl _ _⟩ ?_
 rintro _ ⟨⟨q, ql, qc⟩, i, u⟩ w1 ⟨i', hi, hil, o1, k1⟩
 simp only at hi o1 ⊢
 subst hi
 refine zN (fun hc => ?_) (fun hc => ?_)
 ·have hc : i' < l := by
   have : (i' : Int) < (l : Int) := by simpa using hc
   omega
  have ek : IntKind.wrap .i64 ((i' : Int) + 1) = ((i' + 1 : Nat) : Int) := by rw [zW (by omega) (by omega)]; omega
  have hless : ((l : Int) - IntKind.wrap .i64 ((i' : Int) + 1)).toNat < ((l : Int) - (i' : Int)).toNat := by rw [ek]; omega
  obtain ⟨x, hx⟩ : ∃ x, rs[i']? = some x := ⟨_, List.getElem?_eq_getElem (by omega)⟩
  have hxl := hlba x (List.mem_of_getElem? hx)
  have htake : rs.take (i' + 1) = rs.take i' ++ [x] := by rw [List.take_add_one, hx]; rfl
  have hql : ql ≤ i' := by
   have e := o1.length
   have : (grp v (rs.take i')).length ≤ (rs.take i').length := by
    unfold grp
    rw [List.length_map]
    exact List.length_filter_le _ _
   rw [List.length_take] at this
   omega
  refine (h.yA k1 (by simp)).ldA (i := (i' : Int)) (n := 19) (x := x) rfl (by omega) (by rw [Int.toNat_natCast]; exact hx) ?_
  rw [O5]
  refine yN QO rfl (ZI x) fun w2 hb2 k2 z2 => ?_
  have k02 := k1.trans k2
  have o2 := o1.keep k2 (by simp)
  have skip : isI v x = false → ∃ m_1, m_1 < ((l : Int) - (i' : Int)).toNat ∧ (∃ i : Nat, IntKind.wrap .i64 ((i' : Int) + 1) = (i : Int) ∧ i ≤ l ∧ OwnL jM w2 w.heap.size 88 q ql qc (grp v (rs.take i)) ∧ Keep (fun _ => False) w w2) ∧ ((l : Int) - IntKind.wrap .i64 ((i' : Int) + 1)).toNat = m_1 := fun e => ⟨_, hless, ⟨i' + 1, ek, by omega, by
   rw [htake]
   unfold grp at o2 ⊢
   rw [List.filter_append]
   simpa [e] using o2, k02⟩, rfl⟩
  refine zG (v := .int .i64 x.kind) hb2 rfl (zA.2 ?_)
  refine zN (fun e3 => ?_) (fun e3 => skip (by unfold isI; rw [e3]; rfl))
  refine zG (v := .int .u64 x.ver) hb2 rfl (zA.2 ?_)
  refine zN (fun ev => ?_) (fun ev => skip (by unfold isI; rw [ev, Bool.and_false]))
  have hI : isI v x = true := by unfold isI; rw [e3, ev]; rfl
  refine zG (v := .int .i64 x.lba) hb2 rfl (zA.2 ⟨by decide, ?_⟩)
  refine zG (v := .int .i64 x.lba) hb2 rfl (zA.2 ⟨by decide, ?_⟩)
  rw [Int.tdiv_eq_ediv_of_nonneg hxl.1, zW (x := x.lba / 1024) (by omega) (by omega), Int.tmod_eq_emod_of_nonneg hxl.1]
  refine zV (v := .agg (plcV (putR x).plc)) (fun _ => run_build _ _ _ _ (by kernel_rfl)) (zJ.2 ⟨rfl, ?_⟩)
  refine yN (by kernel_rfl) rfl (by intro v hv; have hv : v ∈ [Value.int .i64 (x.lba / 1024), .int .i64 (x.lba % 1024)] := hv; simp only [List.mem_cons, List.not_mem_nil, or_false] at hv; rcases hv with rfl | rfl <;> rfl) fun w3 hb3 k3 z3 => ?_
  have hb23 := k3.has hb2 (by simp)
  have o3 := o2.keep k3 (by simp)
  have k03 := k02.trans k3
  refine ⟨fun st' w' => OwnL jM w' w.heap.size 88 st'.1.1 st'.1.2.1 st'.1.2.2 (grp v (rs.take (i' + 1))) ∧ Keep (fun _ => False) w w', ?_, ?_⟩
  ·intro d
   have kd := Keep.drew (fun _ => False) w3 d
   have hb4 := kd.has hb3 (by simp)
   have hc4 := kd.has hb23 (by simp)
   have o4 := o3.keep kd (by simp)
   have k04 := k03.trans kd
   generalize w3.dr d = w4 at *
   generalize w2.heap.size = b2 at *
   generalize w1.heap.size = b1 at *
   have hS_ : ∀ w', Keep (fun _ => False) w4 w' → Has w' b2 (.cells (plcV (putR x).plc) 84 (0, 0)) ∧ Has w' b1 (.cells (recV x) 246 (0, 0)) := fun w' k => ⟨k.has hb4 (by simp), k.has hc4 (by simp)⟩
   refine ⟨fun w' => Has w' b2 (.cells (plcV (putR x).plc) 84 (0, 0)) ∧ Has w' b1 (.cells (recV x) 246 (0, 0)), hS_ _ (Keep.refl _ _), ?_⟩
   refine jR (cs := plcV (putR x).plc) rfl (fun w' hw => ⟨_, _, _, hw.1, Nat.le_refl 2, rfl⟩) ?_
   refine yO (v := .int .i64 (x.lba % 1024)) (fun w' hw => ⟨_, _, _, hw.1, rfl⟩) (zA.2 ?_)
   refine jR (cs := secV x.data) rfl (fun w' hw => ⟨_, _, _, hw.2, by show 3 + 16 ≤ 19; decide, zOz x⟩) ?_
   refine zB9 fun w5 k5 => zJ.2 ⟨rfl, hS_ _ k5, ?_⟩
   refine ⟨.agg (kP (putR x)), fun w' _ => zQ5 (putR x) w', zJ.2 ⟨rfl, ?_⟩⟩
   refine ⟨_, _, zH8 _ w5, zC.2 ?_⟩
   have k6 := Keep.new (fun _ => False) w5 (.cells (kP (putR x)) 88)
   have hb6 := Has.new w5 (.cells (kP (putR x)) 88)
   generalize w5.alloc (.cells (kP (putR x)) 88) = w6 at *
   refine ⟨hS_ _ (k5.trans k6), ?_⟩
   have o6 := (o4.keep k5 (by simp)).keep k6 (by simp)
   have k06 := (k04.trans k5).trans k6
   obtain ⟨p7, c7, w7, hr7, o7, k7, hp7⟩ := yK zF3 o6 (y := putR x) hb6 rfl (ty := 75) (by omega) (by simp only [maxLen]; omega) (by have := k06.size; omega) (c2 := 1)
   refine ⟨_, _, hr7, zC.2 ?_⟩
   have k07 : Keep (fun _ => False) w w7 := k06.trans' k7 fun i hi e => by have := (o6.lt e).1; omega
   have k47 : ∀ b cs t, Has w4 b (.cells cs t (0, 0)) → t ≠ 88 → Has w7 b (.cells cs t (0, 0)) := fun b cs t hb ht => by
    have hb' := (k5.trans k6).has hb (by simp)
    exact k7.has hb' (OwnL.neH o6 hb' ht)
   refine ⟨⟨k47 _ _ _ hb4 (by decide), k47 _ _ _ hc4 (by decide)⟩, ?_, k07⟩
   show OwnL jM w7 w.heap.size 88 p7 (ql + 1) c7 (grp v (rs.take (i' + 1)))
   rw [htake]
   unfold grp at o7 ⊢
   rw [List.filter_append]
   simpa [hI] using o7
  ·rintro _ ⟨⟨q2, ql2, qc2⟩, u⟩ w4 ⟨o4, k4⟩
   simp only at o4 ⊢
   exact ⟨_, hless, ⟨i' + 1, ek, by omega, o4, k4⟩, rfl⟩
 ·have hc : i' = l := by
   have : ¬ (i' : Int) < (l : Int) := by simpa using hc
   omega
  subst hc
  rw [List.take_of_length_le (by omega)] at o1
  have e := o1.length
  subst e
  exact zF.2 (hK q qc w1 o1 k1)
end group
def dn (rs : List Rec) : Bool := rs.any fun x => x.kind == 5
def uLay : Lay Int := ⟨1, fun y => [.int .u64 y], fun _ => rfl, fun y v hv => by rw [List.mem_singleton.1 hv]; rfl, by decide⟩
theorem zQj : LayT Tryz.prog uLay 302 39 8 := ⟨by kernel_rfl, ⟨(Tryz.prog.info? 39).get (by kernel_rfl), ((Tryz.prog.info? 39).get (by kernel_rfl)).zero.get (by kernel_rfl), by kernel_rfl, by kernel_rfl, by kernel_rfl, by kernel_rfl, by kernel_rfl⟩⟩
theorem zPy (x : Int) (w : World) : (Instr.buildSlice 302 1 #[(0, .int .u64 x)]).run Tryz.prog w = .ok (.slice (some ⟨w.heap.size, 0, none⟩) 1 1) (w.alloc (.cells #[.int .u64 x] 39)) :=
 run_buildSlice w 302 39 1 _ #[.int .u64 x] ((Tryz.prog.info? 39).get (by kernel_rfl)) (((Tryz.prog.info? 39).get (by kernel_rfl)).zero.get (by kernel_rfl)) (by kernel_rfl) (by kernel_rfl) (by kernel_rfl) (by decide +kernel) (by decide +kernel) (by kernel_rfl)
theorem zIh {w : World} {p : Option Addr} {l : Nat} {rs : List Rec} (h : SlL rLay w p l rs) : OJ w p l rs := by
 refine ⟨h.1, fun i hi => ⟨rfl, ?_⟩⟩
 have hlt : i < rs.length := by have := h.1; omega
 obtain ⟨b, o, hp, hc⟩ := h.2 i (rs[i]) (List.getElem?_eq_getElem hlt)
 refine ⟨b, o, hp, fun j hj => ?_⟩
 have e : rs.getD i default = rs[i] := by rw [List.getD_eq_getElem?_getD, List.getElem?_eq_getElem hlt]; rfl
 show _ = (recL (rs.getD i default))[j]?
 rw [e]
 exact hc j hj
section calls
variable {w : World} {R : Value → World → Prop}
theorem zDp {x : Int} (h : x = 0 ∨ x = 1) (hK : ∀ n, R (.int .i64 n) w) : zB Tryz.prog 251 #[.int .u64 x] w R := by
 apply zE2
 unfold NG
 apply TC
 unfold UP
 rcases h with rfl | rfl
 ·refine (zH (p := _)).2 ((zH (p := _)).2 ((zH (p := _)).2 ⟨0, by decide, by kernel_rfl, zF.2 (zA.2 (zF.2 (hK _)))⟩))
 ·refine (zH (p := _)).2 ((zH (p := _)).2 ((zH (p := _)).2 ⟨1, by decide, by kernel_rfl, zF.2 (zA.2 (zF.2 (hK _)))⟩))
theorem zCs {p : Option Addr} {l c : Nat} (hl : l ≤ 1) (hK : R (.tuple #[]) w) : zB Tryz.prog 203 #[.slice p l c] w R := by
 apply ZZ
 unfold kD
 have hl' : ((l : Nat) : Int) = 0 ∨ ((l : Nat) : Int) = 1 := by omega
 generalize ((l : Nat) : Int) = x at *
 have hx : IntKind.wrap .u64 x = x := zHx (by show (0 : Int) ≤ x; omega) (by show x ≤ 18446744073709551615; omega)
 rw [hx]
 refine zDp hl' fun n => zA.2 ?_
 apply u6
 unfold xP
 refine zP (σ := Int × Int × Int × Bool × Bool × Unit) (fun st w' => st.1 = 0 ∧ st.2.1 = x ∧ w' = w) (fun _ _ => 0) ⟨rfl, rfl, rfl⟩ ?_
 rintro _ ⟨a, b, lim, g1, g2, u⟩ w1 ⟨ha, hb, rfl⟩
 simp only at ha hb ⊢
 subst ha hb
 have e : decide (IntKind.wrap .i64 (b - 0) ≤ 12) = true := by rw [zW (by omega) (by omega)]; exact decide_eq_true (by omega)
 rw [e]
 refine (zT (q := _)).2 ?_
 apply vD
 unfold xC
 refine zP (σ := Int × Unit) (fun st w' => st.1 = 1 ∧ w' = w1) (fun _ _ => 0) ⟨by show IntKind.wrap .i64 ((0 : Int) + 1) = 1; decide, rfl⟩ ?_
 rintro _ ⟨i, u⟩ w2 ⟨hi, rfl⟩
 simp only at hi ⊢
 subst hi
 rw [decide_eq_false (show ¬ (1 : Int) < b by omega)]
 exact (zH (p := _)).2 (zF.2 (zF.2 (zF.2 hK)))
theorem H4 : Tryz.prog.underlying 297 = some (.map 39 130) := by kernel_rfl
theorem ZD : Tryz.prog.underlying 298 = some (.map 39 75) := by kernel_rfl
theorem gA : Tryz.prog.underlying 39 = some (.int .u64) := by kernel_rfl
end calls
theorem yI {α : Type} {L : Lay α} {w : World} {base : Nat} {e : TypeId} {p : Option Addr} {l c : Nat} {xs : List α} (h : OwnL L w base e p l c xs) : ∀ k o, p = some ⟨k, o, none⟩ → o = 0 ∧ ∃ cur, Has w k (.cells cur e (0, 0)) := fun k o hk => by
 rcases Own.cases h with ⟨h0, _⟩ | ⟨b', cur, h0, hb, hg, _⟩
 ·rw [h0] at hk; cases hk
 ·rw [h0] at hk; cases hk; exact ⟨rfl, cur, hg⟩
theorem SetAt.pow {w w' : World} {q : SB} {s : SS} {S : Nat → Prop} {pw : Pow} (h : SetAt w q s) (k : Keep S w w') (hS : ∀ i, vJ q i → S i → i = q.m) (hm : MaAt w' q.m pw) : SetAt w' q ⟨s.ds, pw⟩ := by
 refine ⟨hm, h.geo, h.len, h.num, fun i br D hb hD => ?_, h.nodb, h.nodr⟩
 obtain ⟨h1, h2⟩ := h.disks i br D hb hD
 obtain ⟨n1, n2⟩ := h1.nem h.main
 refine ⟨h1.keep k (fun e => n1 (hS _ (Or.inr (Or.inl ?_)) e)) (fun e => n2 (hS _ (Or.inr (Or.inr ?_)) e)), h2⟩
 ·exact List.mem_map.2 ⟨br, List.mem_of_getElem? hb, rfl⟩
 ·exact List.mem_map.2 ⟨br, List.mem_of_getElem? hb, rfl⟩
section calls
variable {w : World} {R : Value → World → Prop}
def zEw (v : Int) (xs : List PutS) : List Rec := xs.map (recI v) ++ [recK 4 v]
def RcOk (r : Rec) : Prop := yH r = true ∧ (0 ≤ r.ver ∧ r.ver ≤ 18446744073709551615) ∧ yD r.data
theorem zMa {v : Int} (hv : 0 ≤ v ∧ v ≤ 18446744073709551615) {x : PutS} (h : InR x) (hd : yD x.cel.data) : RcOk (recI v x) := by
 obtain ⟨⟨a1, a2⟩, a3, a4⟩ := h
 refine ⟨?_, hv, hd⟩
 show (decide (1 ≤ (3 : Int)) && decide ((3 : Int) ≤ 6) && decide (0 ≤ x.plc.dk * 1024 + x.plc.at_) && decide (x.plc.dk * 1024 + x.plc.at_ ≤ 2147483647)) = true
 rw [decide_eq_true (show 0 ≤ x.plc.dk * 1024 + x.plc.at_ by omega), decide_eq_true (show x.plc.dk * 1024 + x.plc.at_ ≤ 2147483647 by omega)]
 rfl
theorem zB7 : yD (sec []) := H6 (by simp)
theorem zOx {rs : List Rec} (h : ∀ r ∈ rs, RcOk r) : VF (rs.flatMap zY) = rs := by
 have hl : (rs.flatMap zY).length = 37 * rs.length := by
  clear h
  induction rs with
  | nil => rfl
  | cons y ys ih => rw [List.flatMap_cons, List.length_append, zKw, ih, List.length_cons]; omega
 have := VE rs [] ((rs.flatMap zY).length + 1) h (by decide) (by omega)
 rw [List.append_nil] at this
 exact this
theorem zM9 {rs : List Rec} (h : ∀ r ∈ rs, RcOk r) : By (rs.flatMap zY) := fun x hx => by
 obtain ⟨r, hr, hx⟩ := List.mem_flatMap.1 hx
 exact zCa (h r hr).2.2 x hx
theorem XS (rs : List Rec) : (rs.flatMap zY).length = 37 * rs.length := by
 induction rs with
 | nil => rfl
 | cons y ys ih => rw [List.flatMap_cons, List.length_append, zKw, ih, List.length_cons]; omega
theorem zIg {v : Int} (hv : 0 ≤ v ∧ v ≤ 18446744073709551615) {xs : List PutS} (h : ∀ x ∈ xs, InR x ∧ yD x.cel.data) : ∀ r ∈ zEw v xs, RcOk r := fun r hr => by
 unfold zEw at hr
 rcases List.mem_append.1 hr with hr | hr
 ·obtain ⟨x, hx, rfl⟩ := List.mem_map.1 hr
  exact zMa hv (h x hx).1 (h x hx).2
 ·rw [List.mem_singleton.1 hr]
  exact ⟨rfl, hv, zB7⟩
end calls
end Go.Proofs
namespace Go.Proofs
open Go.Ev
set_option maxRecDepth 100000
def WN  (w : World) (R : Value → World → Prop) : Prop :=
 DoQ Tryz.prog (Instr.build 229 #[]) (At w) fun v => OpA 19 v fun cs => Alc 229 cs w fun b w => Ret [] (R (.pointer (some ⟨b, 0, none⟩)) w)
theorem OO  {w : World} {R : Value → World → Prop} (h : WN  w R) : zB Tryz.prog 72 #[] w R := by
 exact zE (args := []) (zR [] [] [] [] []) zD Tryz.func72 rfl rfl (by kernel_rfl) h
def qM (d : Nat) (init : Int) (w : World) (R : Value → World → Prop) : Prop :=
 Req (true = true) (Req (true = true) (Req ((decide (init ≥ 0)) = (decide (init ≥ 0))) (Req ((decide (init ≥ 0)) = (decide (init ≥ 0))) (Ret [] (R (.bool (cond (decide
 (init ≥ 0)) (decide (init < 16)) false)) w)))))
theorem VO {d : Nat} {init : Int} {w : World} {R : Value → World → Prop} (h : qM d init w R) : zB Tryz.prog 223 #[.pointer (some ⟨d, 0, none⟩), .int .i64 init] w R := by
 exact zE (args := [.pointer (some ⟨d, 0, none⟩), .int .i64 init]) (zR [] [] [] [] []) zD Tryz.func223 rfl rfl (by kernel_rfl) h
def kV (d : Nat) (w : World) (R : Value → World → Prop) : Prop :=
 DoQ Tryz.prog (Instr.build 227 #[]) (At w) fun v => OpA 16 v fun cs => StA 16 d 0 cs w fun w => StV d 17 (.int .i64 0) w fun w => StV d 16 (.int .i64 0) w fun w => Ret []
 (R (.tuple #[]) w)
theorem Y5 {d : Nat} {w : World} {R : Value → World → Prop} (h : kV d w R) : zB Tryz.prog 162 #[.pointer (some ⟨d, 0, none⟩)] w R := by
 exact zE (args := [.pointer (some ⟨d, 0, none⟩)]) (zR [] [] [] [] []) zD Tryz.func162 rfl rfl (by kernel_rfl) h
def jT (d : Nat) (init : Int) (write : Bool) (w : World) (R : Value → World → Prop) : Prop :=
 zB Tryz.prog 223 #[.pointer (some ⟨d, 0, none⟩), .int .i64 init] w fun v w => OpB v fun g => Cb (!g) (Ret [] (R (.bool false) w)) (LdV d 17 (At w) fun v1 => OpI .i64 v1
 fun n => Cb (n == 0) (Ret [] (R (.bool true) w)) (LdV d 16 (At w) fun v2 => OpI .i64 v2 fun n1 => Cb (n1 == init) (Ret [] (R (.bool true) w)) (LdV d 17 (At w) fun v3 =>
 OpI .i64 v3 fun n2 => Cb (n2 == 1) (Ret [] (R (.bool (!write)) w)) (Cb (n2 == 3) (Cb (!write) (Ret [] (R (.bool true) w)) (Req (0 ≤ init ∧ init < 16) (LdV d (0 + Int.toNat
 init * 1) (At w) fun v4 => OpI .u64 v4 fun n3 => Ret [] (R (.bool (n3 != 0)) w)))) (Cb (n2 == 4) (Req (0 ≤ init ∧ init < 16) (LdV d (0 + Int.toNat init * 1) (At w) fun v5
 => OpI .u64 v5 fun n4 => Ret [] (R (.bool (n4 != 0)) w))) (Ret [] (R (.bool false) w)))))))
theorem W0 {d : Nat} {init : Int} {write : Bool} {w : World} {R : Value → World → Prop} (h : jT d init write w R) : zB Tryz.prog 148 #[.pointer (some ⟨d, 0, none⟩), .int .i64 init, .bool write] w R := by
 exact zE (args := [.pointer (some ⟨d, 0, none⟩), .int .i64 init, .bool write]) (zR [] [] [] [] []) zD Tryz.func148 rfl rfl (by kernel_rfl) h
def kW (d : Nat) (w : World) (R : Value → World → Prop) : Prop :=
 LdV d 18 (At w) fun v => OpB v fun g => Cb (!g) (zB Tryz.prog 162 #[.pointer (some ⟨d, 0, none⟩)] w fun v1 w => Ret [] (R (.tuple #[]) w)) (Ret [] (R (.tuple #[]) w))
theorem Y6 {d : Nat} {w : World} {R : Value → World → Prop} (h : kW d w R) : zB Tryz.prog 88 #[.pointer (some ⟨d, 0, none⟩)] w R := by
 exact zE (args := [.pointer (some ⟨d, 0, none⟩)]) (zR [] [] [] [] []) zD Tryz.func88 rfl rfl (by kernel_rfl) h
end Go.Proofs
namespace Go.Proofs
open Go Go.Ev
set_option maxRecDepth 100000
structure Dk where
 key : Nat → Int
 holder : Int
 kind : Int
 keep : Bool
def dkF (d : Dk) (i : Nat) : Value := if i < 16 then .int .u64 (d.key i) else if i = 16 then .int .i64 d.holder else if i = 17 then .int .i64 d.kind else .bool d.keep
def dkC (d : Dk) : Array Value := ofF 19 (dkF d)
def DkAt (w : World) (b : Nat) (d : Dk) : Prop := Has w b (.cells (dkC d) 229 (0, 0))
def dk0 : Dk := ⟨fun _ => 0, 0, 0, false⟩
def inD (i : Int) : Prop := 0 ≤ i ∧ i < 16
instance (i : Int) : Decidable (inD i) := by unfold inD; infer_instance
def zOb (d : Dk) : Dk := ⟨fun _ => 0, 0, 0, d.keep⟩
def mayD (d : Dk) (i : Int) (wr : Bool) : Bool :=
 if ¬ inD i then false else if d.kind = 0 then true else if d.holder = i then true
 else if d.kind = 1 then !wr else if d.kind = 3 then !wr || decide (d.key i.toNat ≠ 0) else if d.kind = 4 then decide (d.key i.toNat ≠ 0) else false
def GC (d : Dk) : Dk := if d.keep = true then d else zOb d
theorem zA5 (d : Dk) : (dkC d).size = 19 := by simp [dkC]
theorem zL3 {d : Dk} {i : Int} (h : inD i) : (dkC d)[0 + Int.toNat i * 1]? = some (.int .u64 (d.key i.toNat)) := by
 have : 0 + Int.toNat i * 1 = i.toNat := by omega
 unfold inD at h
 rw [this, dkC, YW _ (by omega)]
 unfold dkF
 rw [if_pos (by omega)]
theorem zGt (d : Dk) : (dkC d)[16]? = some (.int .i64 d.holder) := by rw [dkC, YW _ (by decide)]; rfl
theorem zGs (d : Dk) : (dkC d)[17]? = some (.int .i64 d.kind) := by rw [dkC, YW _ (by decide)]; rfl
theorem zN7 (d : Dk) : (dkC d)[18]? = some (.bool d.keep) := by rw [dkC, YW _ (by decide)]; rfl
theorem zL2 {d e : Dk} {k : Nat} {v : Value} (hk : k < 19) (h : ∀ i, i < 19 → dkF e i = if i = k then v else dkF d i) : (dkC d).setIfInBounds k v = dkC e := by
 rw [dkC, TL, dkC]
 exact zFh fun i hi => (h i hi).symm
theorem zN6 (d : Dk) (x : Int) : (dkC d).setIfInBounds 16 (.int .i64 x) = dkC { d with holder := x } := zL2 (by decide) fun j hj => by
 by_cases h2 : j = 16
 ·subst h2; rfl
 ·rw [if_neg h2]
  unfold dkF
  by_cases h1 : j < 16
  ·rw [if_pos h1, if_pos h1]
  ·rw [if_neg h1, if_neg h1, if_neg h2, if_neg h2]
theorem zN5 (d : Dk) (x : Int) : (dkC d).setIfInBounds 17 (.int .i64 x) = dkC { d with kind := x } := zL2 (by decide) fun j hj => by
 by_cases h2 : j = 17
 ·subst h2; rfl
 ·rw [if_neg h2]
  unfold dkF
  by_cases h1 : j < 16
  ·rw [if_pos h1, if_pos h1]
  ·rw [if_neg h1, if_neg h1]
   by_cases h3 : j = 16
   ·rw [if_pos h3, if_pos h3]
   ·rw [if_neg h3, if_neg h3, if_neg h2, if_neg h2]
section calls
variable {w : World} {b : Nat} {d : Dk} {R : Value → World → Prop}
theorem DkAt.put (h : DkAt w b d) {k : Nat} {v : Value} {e : Dk} (hs : (dkC d).setIfInBounds k v = dkC e) (hk : k < 19) (h1 : oneV v = true) {K : World → Prop} (hK : DkAt (w.upd b (.cells (dkC e) 229 (0, 0))) b e → Keep (fun i => i = b) w (w.upd b (.cells (dkC e) 229 (0, 0))) → K (w.upd b (.cells (dkC e) 229 (0, 0)))) : StV b k v w K := by
 refine xZ h (by rw [zA5]; exact hk) h1 ?_
 rw [hs]
 exact hK (Has.zL h _) (Keep.one _ _ _)
theorem zEs (hK : ∀ w', DkAt w' w.heap.size dk0 → Keep (fun _ => False) w w' → w'.heap.size = w.heap.size + 1 → R (.pointer (some ⟨w.heap.size, 0, none⟩)) w') : zB Tryz.prog 72 #[] w R := by
 apply OO
 unfold WN
 refine zV (v := .agg (dkC dk0)) (fun _ => run_build _ _ _ _ (by kernel_rfl)) (zJ.2 ⟨zA5 _, ?_⟩)
 rw [y7]
 exact zF.2 (hK _ (Has.new _ _) (Keep.new _ _ _) (by simp))
theorem zQp (i : Int) (hK : R (.bool (decide (inD i))) w) : zB Tryz.prog 223 #[.pointer (some ⟨b, 0, none⟩), .int .i64 i] w R := by
 apply VO
 unfold qM
 refine ⟨by trivial, by trivial, by trivial, by trivial, zF.2 ?_⟩
 have e : (cond (decide (i ≥ 0)) (decide (i < 16)) false) = decide (inD i) := by
  unfold inD
  by_cases h : 0 ≤ i
  ·simp [h]
  ·simp [h]
 rw [e]; exact hK
theorem zM6 (h : DkAt w b d) (hK : ∀ w', DkAt w' b (zOb d) → Keep (fun k => k = b) w w' → R (.tuple #[]) w') : zB Tryz.prog 162 #[.pointer (some ⟨b, 0, none⟩)] w R := by
 apply Y5
 unfold kV
 refine zV (v := .agg (ofF 16 fun _ => .int .u64 0)) (fun _ => run_build _ _ _ _ (by kernel_rfl)) (zJ.2 ⟨by simp, ?_⟩)
 refine G1 h (by simp) (by rw [zA5]; decide) (by
  intro v hv
  have : v ∈ (List.range 16).map fun _ => Value.int .u64 0 := by simpa [ofF] using hv
  obtain ⟨_, _, rfl⟩ := List.mem_map.1 this
  rfl) ?_
 have e : spl (dkC d) 0 (ofF 16 fun _ => .int .u64 0) = dkC { d with key := fun _ => 0 } := by
  unfold spl dkC ofF
  simp only [List.size_toArray, List.length_map, List.length_range]
  rfl
 rw [e]
 have h1 : DkAt (w.upd b (.cells (dkC { d with key := fun _ => 0 }) 229 (0, 0))) b { d with key := fun _ => 0 } := Has.zL h _
 have k1 := Keep.one w b (.cells (dkC { d with key := fun _ => 0 }) 229 (0, 0))
 exact h1.put (zN5 _ 0) (by decide) rfl fun h2 k2 => h2.put (zN6 _ 0) (by decide) rfl fun h3 k3 => zF.2 (hK _ h3 ((k1.trans k2).trans k3))
theorem zM7 (h : DkAt w b d) (hK : ∀ w', DkAt w' b (GC d) → Keep (fun k => k = b) w w' → R (.tuple #[]) w') : zB Tryz.prog 88 #[.pointer (some ⟨b, 0, none⟩)] w R := by
 apply Y6
 unfold kW
 unfold GC at hK
 refine zG h (zN7 d) (zM.2 ?_)
 refine zN (fun h1 => ?_) (fun h1 => ?_)
 ·rw [if_neg (by simpa using h1)] at hK
  exact zM6 h fun w' h' k' => zF.2 (hK w' h' k')
 ·rw [if_pos (by simpa using h1)] at hK
  exact zF.2 (hK w h (Keep.refl _ _))
theorem zKt (h : DkAt w b d) (i : Int) (wr : Bool) (hK : R (.bool (mayD d i wr)) w) : zB Tryz.prog 148 #[.pointer (some ⟨b, 0, none⟩), .int .i64 i, .bool wr] w R := by
 apply W0
 unfold jT
 refine zQp i (zM.2 ?_)
 unfold mayD at hK
 refine zN (fun hc => ?_) (fun hc => ?_)
 ·rw [if_pos (by simpa using hc)] at hK
  exact zF.2 hK
 have hc : inD i := by simpa using hc
 rw [if_neg (fun hn => hn hc)] at hK
 refine zG h (zGs d) (zA.2 ?_)
 refine zN (fun h1 => ?_) (fun h1 => ?_)
 ·rw [if_pos (by simpa using h1)] at hK
  exact zF.2 hK
 rw [if_neg (by simpa using h1)] at hK
 refine zG h (zGt d) (zA.2 ?_)
 refine zN (fun h2 => ?_) (fun h2 => ?_)
 ·rw [if_pos (by simpa using h2)] at hK
  exact zF.2 hK
 rw [if_neg (by simpa using h2)] at hK
 refine zG h (zGs d) (zA.2 ?_)
 refine zN (fun h3 => ?_) (fun h3 => ?_)
 ·rw [if_pos (by simpa using h3)] at hK
  exact zF.2 hK
 rw [if_neg (by simpa using h3)] at hK
 have en : ∀ x : Int, (x != 0) = decide (x ≠ 0) := fun x => by by_cases h : x = 0 <;> simp [h]
 refine zN (fun h4 => ?_) (fun h4 => ?_)
 ·rw [if_pos (by simpa using h4)] at hK
  refine zN (fun h5 => ?_) (fun h5 => ?_)
  ·rw [h5, Bool.true_or] at hK
   exact zF.2 hK
  ·rw [h5, Bool.false_or] at hK
   refine ⟨hc, zG h (zL3 hc) (zA.2 (zF.2 ?_))⟩
   rw [en]; exact hK
 rw [if_neg (by simpa using h4)] at hK
 refine zN (fun h5 => ?_) (fun h5 => ?_)
 ·rw [if_pos (by simpa using h5)] at hK
  refine ⟨hc, zG h (zL3 hc) (zA.2 (zF.2 ?_))⟩
  rw [en]; exact hK
 ·rw [if_neg (by simpa using h5)] at hK
  exact zF.2 hK
end calls
end Go.Proofs
namespace Go.Ev
open Go
def xG (P : Program) (f : FuncId) (args : Array Value) (w : World) (K : World → Prop) : Prop :=
 CallsD P f args .returning w fun e u w' => (∃ v, e = .returned v) ∧ u = .returning ∧ K w'
def leav (P : Program) (R : World → Prop) : List Deferred → World → Prop
 | [], w => R w
 | d :: ds, w => match d.target with
  | .fn (.func f) ca => cond (Z9 P f) (xG P f (d.args.toList ++ ca.toList).toArray w fun w => leav P R ds w) False
  | _ => False
def zOv (P : Program) (fn : Func) (R : Value → World → Prop) : Exit → Env → World → Prop
 | .normal, e, w => leav P (fun w => rets P fn.results.toList e w fun vs => R (one vs) w) e.d w
 | .ret, e, w => leav P (fun w => rets P fn.results.toList e w fun vs => R (one vs) w) e.d w
 | _, _, _ => False
section
variable {P : Program} {A : Ann} {n : Nat}
theorem KM {fn : Func} {tmps : Array Value} {R : World → Prop} {R' : Ending → World → Prop} (hR : ∀ w, R w → ∃ v, (results fn tmps).run P w = .ok v w ∧ R' (.returned v) w) :
  ∀ (ds : List Deferred) (w : World), leav P R ds w → Leaves P fn tmps R' ds .returning w
 | [], w, h => hR w h
 | d :: ds, w, h => by
  obtain ⟨t, az⟩ := d
  unfold leav at h
  split at h
  ·rename_i f ca ht
   simp only at ht
   subst ht
   cases hk : Z9 P f
   ·rw [hk] at h; exact h.elim
   ·rw [hk] at h
    simp only [cond_true] at h
    have e1 : (az.toList ++ ca.toList).toArray = az ++ ca := by apply Array.ext'; simp
    rw [e1] at h
    refine ⟨by simp, .func f, ca, f, az ++ ca, rfl, ?_, ?_⟩
    ·simp only [invoke]
     exact ZK hk _ _
    ·refine CallsD.mono h fun e u' w' hh => ?_
     obtain ⟨⟨v, rfl⟩, rfl, hK⟩ := hh
     exact KM hR ds w' hK
  ·exact h.elim
theorem TP {fn : Func} {e : Env} {a : Act} {w : World} {R : Value → World → Prop} (hr : Rel n e a) (h : rets P fn.results.toList e w fun vs => R (one vs) w) :
  ∃ v, (results fn a.tmps).run P w = .ok v w ∧ R v w := by
 obtain ⟨vs, hvs, h⟩ := Q3 _ hr h
 refine ⟨_, ?_, h⟩
 have e1 : results fn a.tmps = (do let vs ← fn.results.mapM (zCx a.tmps); pure (if h : vs.size = 1 then vs[0] else .tuple vs)) := rfl
 rw [e1, ← Array.toArray_toList (xs := fn.results), List.mapM_toArray]
 simp only [Sem.run_bind, map_eq_pure_bind, hvs, Result.andThen_ok, Sem.run_pure]
 congr 1
 match vs with
 | [] => rfl
 | [v] => rfl
 | _ :: _ :: _ => simp [one]
theorem N9 {f : FuncId} {fn : Func} {c : Code} {args : List Value} {w : World} {R : Value → World → Prop} (A : Ann) (hm : P.follows .mixedOrders = true)
  (hf : P.funcs[f]? = some fn) (hb : fn.body = some c) (hargs : Nat.ble args.length fn.ntmps = true) (h : den P A fn.ntmps c (zOv P fn R) (env0 args) w) : zB P f args.toArray w R := by
 have hle : args.length ≤ fn.ntmps := Nat.le_of_ble_eq_true hargs
 refine calls_of_wp_defers hf hb ?_
 have hr : Rel fn.ntmps (env0 args) { tmps := args.toArray ++ Array.replicate (fn.ntmps - args.toArray.size) undef, defers := [] } := by
  refine ⟨by simp; omega, fun i => ?_, rfl⟩
  simp only [env0, SV.v, Array.getD_eq_getD_getElem?, Array.getElem?_append, List.size_toArray, List.getElem?_toArray, Array.getElem?_replicate]
  by_cases hi : i < args.length
  ·simp [hi]
  ·rw [if_neg hi, List.getElem?_eq_none (by omega)]
   split <;> rfl
 refine wp_mono (zL4 hm c _ _ _ w (xB c) _ (fun _ h => h) (Off.refl _ _) hr h) fun q a' w' ⟨e', hr', _, h'⟩ => ?_
 cases q <;> first
  | exact h'.elim
  | (show Leaves P fn a'.tmps _ a'.defers .returning w'
     rw [hr'.d]
     exact KM (fun w hw => by
      obtain ⟨v, hv, hR⟩ := TP hr' hw
      exact ⟨v, hv, v, rfl, hR⟩) _ _ h')
theorem Y0 {f : FuncId} {fn : Func} {args : List Value} {w : World} {R : Value → World → Prop} {F : Prop} (A : Ann) (hm : P.follows .mixedOrders = true)
  (hf : P.funcs[f]? = some fn) (hb : fn.body.isSome = true) (hargs : Nat.ble args.length fn.ntmps = true) (hF : den P A fn.ntmps (M3 fn) (zOv P fn R) (env0 args) w = F) (h : F) :
  zB P f args.toArray w R := by
 subst hF
 cases hc : fn.body with
 | none => rw [hc] at hb; cases hb
 | some c =>
  have he : M3 fn = c := by unfold M3; rw [hc]
  rw [he] at h
  exact N9 A hm hf hc hargs h
open Go.Conc.Locks in
theorem zFq {L : MuLink} (H : MuLib P L) {b o : Nat} {c : Array Value} {t : TypeId} {w : World} {R : Value → World → Prop} (h : Has w b (.cells c t (0, 0))) (hc : c[o]? = some (.int .i32 0))
  (hR : R (.tuple #[]) (w.upd b (.cells (c.setIfInBounds o (.int .i32 1)) t (0, 0)))) : zB P L.lock #[.pointer (some ⟨b, o, none⟩)] w R := by
 refine Calls.mono (Go.MuLone.lock_free H ⟨b, o, none⟩ w (by rw [cell_of h]; exact hc) (kS h)) fun e w' hh => ?_
 obtain ⟨rfl, rfl⟩ := hh
 refine ⟨_, rfl, ?_⟩
 rw [uI h]
 exact hR
open Go.Conc.Locks in
theorem KB {L : MuLink} (H : MuLib P L) {b o : Nat} {c : Array Value} {t : TypeId} {w : World} {K : World → Prop} (h : Has w b (.cells c t (0, 0))) (hc : c[o]? = some (.int .i32 1))
  (hK : K (w.upd b (.cells (c.setIfInBounds o (.int .i32 0)) t (0, 0)))) : xG P L.unlock #[.pointer (some ⟨b, o, none⟩)] w K := by
 refine CallsD.mono (Go.MuLone.unlock_deferred H ⟨b, o, none⟩ .returning w (by rw [cell_of h]; exact hc) (kS h)) fun e u w' hh => ?_
 obtain ⟨rfl, rfl, rfl⟩ := hh
 refine ⟨⟨_, rfl⟩, rfl, ?_⟩
 rw [uI h]
 exact hK
end
end Go.Ev
namespace Go.Proofs
abbrev Tryz.zPe : Go.Conc.Locks.MuLink := { lock := 75, unlock := 76, ilock := 141, iunlock := 142, lockSlow := 217, unlockSlow := 220, disable := 213, enable := 215, acquire := 216, relMerge := 218, cas32 := 214, add32 := 219, tMutex := 135, tIMutex := 133, tPMutex := 231, tPIMutex := 318, tPI32 := 320, tUP := 322, tNoCopy := 131, tU32 := 62 }
theorem Tryz.zIz : Go.Conc.Locks.MuLib Tryz.prog Tryz.zPe :=
 ⟨Tryz.func75, Tryz.func76, Tryz.func141, Tryz.func142, Tryz.func213, Tryz.func215, Tryz.func216, Tryz.func218, Tryz.func214, Tryz.func219, Tryz.underlying133, Tryz.runUnderlying133, Tryz.sizeOf133, Tryz.isAgg133, Tryz.zeroValue133, Tryz.underlying135, Tryz.runUnderlying135, Tryz.sizeOf135, Tryz.isAgg135, Tryz.zeroValue135, Tryz.underlying231, Tryz.runUnderlying231, Tryz.sizeOf231, Tryz.isAgg231, Tryz.zeroValue231, Tryz.underlying318, Tryz.runUnderlying318, Tryz.sizeOf318, Tryz.isAgg318, Tryz.zeroValue318, Tryz.underlying320, Tryz.runUnderlying320, Tryz.sizeOf320, Tryz.isAgg320, Tryz.zeroValue320, Tryz.underlying322, Tryz.runUnderlying322, Tryz.sizeOf322, Tryz.isAgg322, Tryz.zeroValue322, Tryz.underlying131, Tryz.runUnderlying131, Tryz.sizeOf131, Tryz.isAgg131, Tryz.zeroValue131, Tryz.underlying21, Tryz.runUnderlying21, Tryz.sizeOf21, Tryz.isAgg21, Tryz.zeroValue21, by kernel_rfl⟩
end Go.Proofs
namespace Go.Proofs
open Go Go.Ev
set_option maxRecDepth 100000
def pw0 : Pow := ⟨true, 0, 0⟩
theorem lit0 : Lit0 pw0 := ⟨rfl, rfl⟩
section calls
variable {w : World} {R : Value → World → Prop}
end calls
def g4 : Geo := ⟨4, 1, 2⟩
theorem zPr : GeoOk g4 := ⟨by decide, by decide, by decide⟩
section calls
variable {w : World} {R : Value → World → Prop}
end calls
section calls
variable {w0 w w' : World} {g : Geo} {b2 b3 m : Nat} {bks : List (Nat × Nat)} {p : Option Addr} {c : Nat} {pr : Option Addr} {cr : Nat} {xs : List (Nat × Nat × Nat)}
end calls
theorem GY {c m : Nat} {room : Int} {es : List (Int × Ent)} {w : World} {R : Value → World → Prop} (h : yQ w c m room es) (hK : R (.int .i64 es.length) w) :
  zB Tryz.prog 83 #[.pointer (some ⟨c, 0, none⟩)] w R := by
 apply V0
 unfold qX
 refine zG (v := .map (some m)) h.1 rfl ?_
 simp only [vZ]
 refine zV (fun d => zBa qH (h.2.dr d)) ?_
 simpa using hK
end Go.Proofs
namespace Go.Proofs
open Go.Ev
set_option maxRecDepth 100000
def G9 (g : Array Value) (room : Int) (w : World) (R : Value → World → Prop) : Prop :=
 Alc 24 g w fun b w => LdA 3 b 0 (At w) fun cs => zB Tryz.prog 71 #[.agg cs] w fun v w => OpI .i64 v fun n => Cb (n != 0) (Ret [] (R (.tuple #[.pointer none, .int .i64
 n]) w)) (Req ((decide (room < 1)) = (decide (room < 1))) (Req ((decide (room < 1)) = (decide (room < 1))) (Cb (cond (decide (room < 1)) true (decide (room > 64))) (Ret []
 (R (.tuple #[.pointer none, .int .i64 2]) w)) (xV (σ := (Nat × Nat) × Unit) (fun J1 => yJ w fun S w => LdV b 0 S fun v1 => OpI .i64 v1 fun n1 => (zB Tryz.prog 52
 #[] w fun v2 w => OpN v2 fun b1 o => Hld (S w) ((zB Tryz.prog 72 #[] w fun v3 w => OpN v3 fun b2 o1 => Hld (S w) (DoV Tryz.prog (Instr.makeSlice 69 (.int .i64 n1) (.int
 .i64 n1)) w fun v4 w => OpS v4 fun p l c => Hld (S w) (DoQ Tryz.prog (Instr.build 143 #[(1, .pointer (some ⟨b1, o, none⟩)), (6, .pointer (some ⟨b2, o1, none⟩)), (10, .int
 .i64 room), (9, .slice p l c)]) (At w) fun v5 => OpA 21 v5 fun cs1 => Alc 143 cs1 w fun b3 w => Hld (S w) (J1 ((b3, 0), ()) w)))) ∧ (DoV Tryz.prog (Instr.makeSlice 69
 (.int .i64 n1) (.int .i64 n1)) w fun v6 w => OpS v6 fun p1 l1 c1 => Hld (S w) (zB Tryz.prog 72 #[] w fun v7 w => OpN v7 fun b4 o2 => Hld (S w) (DoQ Tryz.prog
 (Instr.build 143 #[(1, .pointer (some ⟨b1, o, none⟩)), (6, .pointer (some ⟨b4, o2, none⟩)), (10, .int .i64 room), (9, .slice p1 l1 c1)]) (At w) fun v8 => OpA 21 v8 fun cs2
 => Alc 143 cs2 w fun b5 w => Hld (S w) (J1 ((b5, 0), ()) w)))))) ∧ (DoV Tryz.prog (Instr.makeSlice 69 (.int .i64 n1) (.int .i64 n1)) w fun v9 w => OpS v9 fun p2 l2 c2 =>
 Hld (S w) (zB Tryz.prog 52 #[] w fun v10 w => OpN v10 fun b6 o3 => Hld (S w) (zB Tryz.prog 72 #[] w fun v11 w => OpN v11 fun b7 o4 => Hld (S w) (DoQ Tryz.prog
 (Instr.build 143 #[(1, .pointer (some ⟨b6, o3, none⟩)), (6, .pointer (some ⟨b7, o4, none⟩)), (10, .int .i64 room), (9, .slice p2 l2 c2)]) (At w) fun v12 => OpA 21 v12 fun
 cs3 => Alc 143 cs3 w fun b8 w => Hld (S w) (J1 ((b8, 0), ()) w)))))) (fun _ s1 w => xV (σ := Unit) (fun J2 => yJ w fun S w => LdA 3 b 0 (At w) fun cs4 => LdV s1.1.1
 (s1.1.2 + 2) (At w) fun v13 => OpN v13 fun b9 o5 => zB Tryz.prog 53 #[.agg cs4, .pointer (some ⟨b9, o5, none⟩)] w fun v14 w => T2 v14 fun v15 v16 => OpA 4 v15 fun cs5
 => OpI .i64 v16 fun n2 => Hld (S w) (StA 4 s1.1.1 (s1.1.2 + 3) cs5 w fun w => Hld (S w) (J2 () w))) (fun _ s2 w => yC (σ := Int × Unit) (fun _ s3 w K3 => Cb (decide
 (s3.1 < 2)) (xV (σ := Unit) (fun J4 => yJ w fun S w => LdV s1.1.1 (s1.1.2 + 2) (At w) fun v17 => OpN v17 fun b10 o6 => zB Tryz.prog 54 #[.int .i64 65536, .pointer
 (some ⟨b10, o6, none⟩)] w fun v18 w => T2 v18 fun v19 v20 => OpN v19 fun b11 o7 => OpI .i64 v20 fun n3 => Hld (S w) (Req (0 ≤ s3.1 ∧ s3.1 < 2) (StV s1.1.1 (s1.1.2 + 7 +
 Int.toNat s3.1 * 1) (.pointer (some ⟨b11, o7, none⟩)) w fun w => Hld (S w) (J4 () w)))) (fun _ s4 w => xV (σ := Unit) (fun J5 => yJ w fun S w => Req (0 ≤ s3.1 ∧ s3.1
 < 2) (StV s1.1.1 (s1.1.2 + 13 + Int.toNat s3.1 * 2) (.bool true) w fun w => Hld (S w) (Req (0 ≤ s3.1 ∧ s3.1 < 2) (StV s1.1.1 (s1.1.2 + 10 + Int.toNat s3.1 * 1) (.bool
 true) w fun w => Hld (S w) (J5 () w))))) (fun _ s5 w => K3 (IntKind.wrap .i64 (s3.1 + 1), ()) w))) (xV (σ := Unit) (fun J6 => yJ w fun S w => Req (0 ≤ (0 : Int) ∧ (0
 : Int) < 2) (LdV s1.1.1 (s1.1.2 + 7 + Int.toNat 0 * 1) (At w) fun v21 => OpN v21 fun b12 o8 => Req (0 ≤ (1 : Int) ∧ (1 : Int) < 2) (LdV s1.1.1 (s1.1.2 + 7 + Int.toNat 1 *
 1) (At w) fun v22 => OpN v22 fun b13 o9 => zB Tryz.prog 73 #[.pointer (some ⟨b12, o8, none⟩), .pointer (some ⟨b13, o9, none⟩), .int .i64 room] w fun v23 w => T2 v23 fun
 v24 v25 => OpN v24 fun b14 o10 => OpI .i64 v25 fun n4 => Hld (S w) (StV s1.1.1 (s1.1.2 + 9) (.pointer (some ⟨b14, o10, none⟩)) w fun w => Hld (S w) (J6 () w))))) (fun _ s6
 w => Ret [] (R (.tuple #[.pointer (some ⟨s1.1.1, s1.1.2, none⟩), .int .i64 0]) w)))) (0, ()) w))))))
theorem zAs {g : Array Value} {room : Int} {w : World} {R : Value → World → Prop} (h : G9 g room w R) : zB Tryz.prog 13 #[.agg g, .int .i64 room] w R := by
 exact zE (args := [.agg g, .int .i64 room]) (XZ [(9, [(40, (.int .i64))])] [] [] [] [20, 21, 35, 50, 81, 100020, 100021, 100050, 100081] [] [(6, [(7, .ptr)]), (7, []), (11, []), (12, []), (14, [])]) zD Tryz.func13 rfl rfl (by kernel_rfl) h
def jD (a : Nat) (side : Int) (w : World) (R : Value → World → Prop) : Prop :=
 xV (σ := Bool × Unit) (fun J1 => yJ w fun S w => Req ((decide (side ≥ 0)) = (decide (side ≥ 0))) (Req ((decide (side ≥ 0)) = (decide (side ≥ 0))) (Cb (cond (decide
 (side ≥ 0)) (decide (side ≤ 1)) false) (LdV a 2 S fun v => OpN v fun b o => zB Tryz.prog 44 #[.pointer (some ⟨b, o, none⟩)] w fun v1 w => OpB v1 fun g => Hld (S w) (Cb
 g (LdV a 9 S fun v2 => OpP v2 (Hld (S w) (J1 (false, ()) w)) fun b1 o1 => Req (0 ≤ side ∧ side < 2) (LdV a (13 + Int.toNat side * 2) S fun v3 => OpB v3 fun g1 => Cb g1
 (Req (0 ≤ side ∧ side < 2) (LdV a (13 + Int.toNat side * 2 + 1) S fun v4 => OpI .u32 v4 fun n => LdA 4 a 3 (At w) fun cs => zB Tryz.prog 42 #[.agg cs] w fun v5 w => OpI
 .u32 v5 fun n1 => Hld (S w) (J1 (decide (n ≥ n1), ()) w))) (Hld (S w) (J1 (false, ()) w)))) (Hld (S w) (J1 (false, ()) w)))) (Hld (S w) (Hld (S w) (J1 (false, ()) w))))))
 (fun _ s1 w => Ret [] (R (.bool s1.1) w))
theorem XC {a : Nat} {side : Int} {w : World} {R : Value → World → Prop} (h : jD a side w R) : zB Tryz.prog 78 #[.pointer (some ⟨a, 0, none⟩), .int .i64 side] w R := by
 exact zE (args := [.pointer (some ⟨a, 0, none⟩), .int .i64 side]) (XZ [] [] [] [] [16, 22, 46] [] [(1, [(4, .bool)])]) zD Tryz.func78 rfl rfl (by kernel_rfl) h
def jE (a : Nat) (w : World) (R : Value → World → Prop) : Prop :=
 yC (σ := Int × Unit) (fun _ s1 w K1 => Cb (decide (s1.1 < 2)) (zB Tryz.prog 78 #[.pointer (some ⟨a, 0, none⟩), .int .i64 s1.1] w fun v w => OpB v fun g => Cb g (Ret
 [] (R (.tuple #[.int .i64 s1.1, .bool true]) w)) (K1 (IntKind.wrap .i64 (s1.1 + 1), ()) w)) (Ret [] (R (.tuple #[.int .i64 0, .bool false]) w))) (0, ()) w
theorem XD {a : Nat} {w : World} {R : Value → World → Prop} (h : jE a w R) : zB Tryz.prog 161 #[.pointer (some ⟨a, 0, none⟩)] w R := by
 exact zE (args := [.pointer (some ⟨a, 0, none⟩)]) (zR [(2, [(5, (.int .i64))])] [] [] [] []) zD Tryz.func161 rfl rfl (by kernel_rfl) h
def jH (a : Nat) (side : Int) (w : World) (R : Value → World → Prop) : Prop :=
 xV (σ := Bool × Unit) (fun J1 => Req (0 ≤ IntKind.wrap .i64 (1 - side) ∧ IntKind.wrap .i64 (1 - side) < 2) (LdV a (10 + Int.toNat (IntKind.wrap .i64 (1 - side)) * 1)
 (At w) fun v => OpB v fun g => Cb (!g) (J1 (true, ()) w) (Req (0 ≤ IntKind.wrap .i64 (1 - side) ∧ IntKind.wrap .i64 (1 - side) < 2) (LdV a (13 + Int.toNat (IntKind.wrap
 .i64 (1 - side)) * 2) (At w) fun v1 => OpB v1 fun g1 => Cb g1 (LdV a 17 (At w) fun v2 => OpB v2 fun g2 => J1 (!g2, ()) w) (J1 (false, ()) w))))) (fun _ s1 w => Cb s1.1
 (Ret [] (R (.int .i64 0) w)) (LdV a 9 (At w) fun v3 => OpN v3 fun b o => zB Tryz.prog 143 #[.pointer (some ⟨b, o, none⟩), .int .i64 (IntKind.wrap .i64 (1 - side))] w
 fun v4 w => OpI .i64 v4 fun n => Req (0 ≤ IntKind.wrap .i64 (1 - side) ∧ IntKind.wrap .i64 (1 - side) < 2) (StV a (10 + Int.toNat (IntKind.wrap .i64 (1 - side)) * 1)
 (.bool false) w fun w => zB Tryz.prog 144 #[.pointer (some ⟨a, 0, none⟩)] w fun v5 w => OpI .i64 v5 fun n1 => Cb (n1 != 0) (Ret [] (R (.int .i64 n1) w)) (yJ w fun S
 w => Req (0 ≤ side ∧ side < 2) (LdV a (13 + Int.toNat side * 2 + 1) S fun v6 => OpI .u32 v6 fun n2 => LdA 4 a 3 S fun cs => zB Tryz.prog 42 #[.agg cs] w fun v7 w => OpI
 .u32 v7 fun n3 => Hld (S w) (DoQ Tryz.prog (Builtin.max_ #[62, 62] 62 #[.int .u32 n2, .int .u32 n3]) (At w) fun v8 => OpI .u32 v8 fun n4 => zB Tryz.prog 145 #[.int .u32
 n4, .int .i64 side] w fun v9 w => T2 v9 fun v10 v11 => OpI .u32 v10 fun n5 => OpI .i64 v11 fun n6 => Hld (S w) (Cb (n6 != 0) (Ret [] (R (.int .i64 n6) w)) (LdV a 9 (At w)
 fun v12 => OpN v12 fun b1 o1 => zB Tryz.prog 146 #[.pointer (some ⟨b1, o1, none⟩), .int .u32 n5] w fun v13 w => OpI .i64 v13 fun n7 => Cb (n7 != 0) (Ret [] (R (.int
 .i64 n7) w)) (LdA 4 a 3 (At w) fun cs1 => zB Tryz.prog 40 #[.agg cs1, .int .u32 n5] w fun v14 w => OpI .i64 v14 fun n8 => Req (0 ≤ side ∧ side < 2) (StV a (13 +
 Int.toNat side * 2 + 1) (.int .u32 n5) w fun w => Ret [] (R (.int .i64 0) w)))))))))))
theorem XG {a : Nat} {side : Int} {w : World} {R : Value → World → Prop} (h : jH a side w R) : zB Tryz.prog 79 #[.pointer (some ⟨a, 0, none⟩), .int .i64 side] w R := by
 exact zE (args := [.pointer (some ⟨a, 0, none⟩), .int .i64 side]) (XZ [] [] [] [] [63] [] [(2, [(34, .bool)])]) zD Tryz.func79 rfl rfl (by kernel_rfl) h
def uY (a : Nat) (w : World) (R : Value → World → Prop) : Prop :=
 LdA 2 a 7 (At w) fun cs => yC (σ := Int × Unit) (fun _ s1 w K1 => Cb (decide (s1.1 < 2)) (Req (0 ≤ s1.1 ∧ s1.1 < 2) (Fld cs (Int.toNat s1.1 * 1) fun v => OpN v fun b o
 => Req (0 ≤ s1.1 ∧ s1.1 < 2) (LdV a (10 + Int.toNat s1.1 * 1) (At w) fun v1 => OpB v1 fun g => Cb g (zB Tryz.prog 221 #[.pointer (some ⟨b, o, none⟩)] w fun v2 w => OpI
 .i64 v2 fun n => Cb (decide (n < 64)) (LdV a 9 (At w) fun v3 => OpN v3 fun b1 o1 => zB Tryz.prog 168 #[.pointer (some ⟨b1, o1, none⟩)] w fun v4 w => OpI .i64 v4 fun n1
 => Ret [] (R (.int .i64 n1) w)) (K1 (IntKind.wrap .i64 (s1.1 + 1), ()) w)) (K1 (IntKind.wrap .i64 (s1.1 + 1), ()) w)))) (Ret [] (R (.int .i64 0) w))) (0, ()) w
theorem ZB {a : Nat} {w : World} {R : Value → World → Prop} (h : uY a w R) : zB Tryz.prog 144 #[.pointer (some ⟨a, 0, none⟩)] w R := by
 exact zE (args := [.pointer (some ⟨a, 0, none⟩)]) (zR [(2, [(9, (.int .i64))])] [] [] [] []) zD Tryz.func144 rfl rfl (by kernel_rfl) h
def q6 (a : Nat) (side : Int) (w : World) (R : Value → World → Prop) : Prop :=
 LdV a 9 (At w) fun v => OpN v fun b o => zB Tryz.prog 157 #[.pointer (some ⟨b, o, none⟩)] w fun v1 w => T2 v1 fun v2 v3 => OpA 19 v2 fun cs => OpI .i64 v3 fun n => Alc
 246 (zc Tryz.prog 246) w fun b1 w => StA 19 b1 0 cs w fun w => Cb (n != 0) (Ret [] (R (.int .i64 n) w)) (zB Tryz.prog 144 #[.pointer (some ⟨a, 0, none⟩)] w fun v4 w =>
 OpI .i64 v4 fun n1 => Cb (n1 != 0) (Ret [] (R (.int .i64 n1) w)) (LdV a 9 (At w) fun v5 => OpN v5 fun b2 o1 => zB Tryz.prog 158 #[.pointer (some ⟨b2, o1, none⟩)] w fun
 v6 w => OpI .u64 v6 fun n2 => yJ w fun S w => LdA 4 a 3 S fun cs1 => LdV a 9 S fun v7 => OpN v7 fun b3 o2 => LdV b1 2 S fun v8 => OpI .i64 v8 fun n3 => LdA 16 b1 3 S
 fun cs2 => Req (0 ≤ side ∧ side < 2) (LdV a (13 + Int.toNat side * 2 + 1) S fun v9 => OpI .u32 v9 fun n4 => zB Tryz.prog 159 #[.pointer (some ⟨b3, o2, none⟩), .int .i64
 side] w fun v10 w => OpS v10 fun p l c => Hld (S w) (zB Tryz.prog 57 #[.agg cs1, .slice p l c, .int .u64 n2, .int .i64 n3, .agg cs2, .int .u32 n4] w fun v11 w => OpI
 .i64 v11 fun n5 => Hld (S w) (Cb (n5 != 0) (Ret [] (R (.int .i64 n5) w)) (yJ w fun S w => LdV a 9 (At w) fun v12 => OpN v12 fun b4 o3 => LdV b1 2 (At w) fun v13 => OpI
 .i64 v13 fun n6 => LdV b1 1 (At w) fun v14 => OpI .u64 v14 fun n7 => zB Tryz.prog 160 #[.pointer (some ⟨b4, o3, none⟩), .int .i64 n6, .int .u64 n7] w fun v15 w => OpI
 .i64 v15 fun n8 => Hld (S w) (Ret [] (R (.int .i64 n8) w))))))))
theorem V4 {a : Nat} {side : Int} {w : World} {R : Value → World → Prop} (h : q6 a side w R) : zB Tryz.prog 84 #[.pointer (some ⟨a, 0, none⟩), .int .i64 side] w R := by
 exact zE (args := [.pointer (some ⟨a, 0, none⟩), .int .i64 side]) (zR [] [] [] [] [40, 53, 65]) zD Tryz.func84 rfl rfl (by kernel_rfl) h
def j8 (a : Nat) (lba : Int) (w : World) (R : Value → World → Prop) : Prop :=
 Alc 37 (zc Tryz.prog 37) w fun b w => LdV a 9 (At w) fun v => OpN v fun b1 o => zB Tryz.prog 154 #[.pointer (some ⟨b1, o, none⟩), .int .i64 lba] w fun v1 w => T3 v1 fun
 v2 v3 v4 => OpA 16 v2 fun cs => OpI .u64 v3 fun n => OpI .i64 v4 fun n1 => Alc 37 (zc Tryz.prog 37) w fun b2 w => StA 16 b2 0 cs w fun w => Cb (n1 == 0) (LdA 16 b2 0 (At
 w) fun cs1 => StA 16 b 0 cs1 w fun w => LdA 16 b 0 (At w) fun cs2 => Ret [] (R (.tuple #[.agg cs2, .int .i64 n1]) w)) (LdA 4 a 3 (At w) fun cs3 => zB Tryz.prog 29
 #[.agg cs3, .int .i64 lba] w fun v5 w => T2 v5 fun v6 v7 => OpA 16 v6 fun cs4 => OpI .i64 v7 fun n2 => StA 16 b 0 cs4 w fun w => LdA 16 b 0 (At w) fun cs5 => Ret [] (R
 (.tuple #[.agg cs5, .int .i64 n2]) w))
theorem VA {a : Nat} {lba : Int} {w : World} {R : Value → World → Prop} (h : j8 a lba w R) : zB Tryz.prog 81 #[.pointer (some ⟨a, 0, none⟩), .int .i64 lba] w R := by
 exact zE (args := [.pointer (some ⟨a, 0, none⟩), .int .i64 lba]) (zR [] [] [] [] []) zD Tryz.func81 rfl rfl (by kernel_rfl) h
def qZ (a : Nat) (side : Int) (lba : Int) (data : Array Value) (w : World) (R : Value → World → Prop) : Prop :=
 Alc 37 data w fun b w => yC (σ := Unit) (fun _ s1 w K1 => LdV a 9 (At w) fun v => OpN v fun b1 o => zB Tryz.prog 154 #[.pointer (some ⟨b1, o, none⟩), .int .i64 lba]
 w fun v1 w => T3 v1 fun v2 v3 v4 => OpA 16 v2 fun cs => OpI .u64 v3 fun n => OpI .i64 v4 fun n1 => Alc 37 (zc Tryz.prog 37) w fun b2 w => StA 16 b2 0 cs w fun w => xV
 (σ := Bool × Unit) (fun J2 => Cb (n1 == 0) (J2 (true, ()) w) (LdV a 9 (At w) fun v5 => OpN v5 fun b3 o1 => zB Tryz.prog 155 #[.pointer (some ⟨b3, o1, none⟩)] w fun v6 w
 => OpB v6 fun g => J2 (!g, ()) w)) (fun _ s2 w => Cb s2.1 (zB Tryz.prog 144 #[.pointer (some ⟨a, 0, none⟩)] w fun v7 w => OpI .i64 v7 fun n2 => Cb (n2 != 0) (Ret [] (R
 (.int .i64 n2) w)) (yJ w fun S w => LdV a 9 (At w) fun v8 => OpN v8 fun b4 o2 => LdA 16 b 0 (At w) fun cs1 => zB Tryz.prog 156 #[.pointer (some ⟨b4, o2, none⟩), .int
 .i64 side, .int .i64 lba, .agg cs1] w fun v9 w => T2 v9 fun v10 v11 => OpI .u64 v10 fun n3 => OpI .i64 v11 fun n4 => Hld (S w) (Ret [] (R (.int .i64 n4) w)))) (zB
 Tryz.prog 84 #[.pointer (some ⟨a, 0, none⟩), .int .i64 side] w fun v12 w => OpI .i64 v12 fun n5 => Cb (n5 != 0) (Ret [] (R (.int .i64 n5) w)) (K1 () w)))) () w
theorem V3 {a : Nat} {side : Int} {lba : Int} {data : Array Value} {w : World} {R : Value → World → Prop} (h : qZ a side lba data w R) : zB Tryz.prog 82 #[.pointer (some ⟨a, 0, none⟩), .int .i64 side, .int .i64 lba, .agg data] w R := by
 exact zE (args := [.pointer (some ⟨a, 0, none⟩), .int .i64 side, .int .i64 lba, .agg data]) (XZ [(1, [])] [] [] [] [55] [] [(2, [(35, .bool)])]) zD Tryz.func82 rfl rfl (by kernel_rfl) h
def jF (a : Nat) (sense : Int) (w : World) (R : Value → World → Prop) : Prop :=
 Alc 34 (zc Tryz.prog 34) w fun b w => LdV a 2 (At w) fun v => OpN v fun b1 o => zB Tryz.prog 44 #[.pointer (some ⟨b1, o, none⟩)] w fun v1 w => OpB v1 fun g => Cb (!g)
 (DoQ Tryz.prog (Instr.build 34 #[]) (At w) fun v2 => OpA 3 v2 fun cs => StA 3 b 0 cs w fun w => LdA 3 b 0 (At w) fun cs1 => Ret [] (R (.agg cs1) w)) (DoQ Tryz.prog
 (Instr.build 34 #[(0, .int .i64 2), (1, .int .i64 sense)]) (At w) fun v3 => OpA 3 v3 fun cs2 => StA 3 b 0 cs2 w fun w => LdA 3 b 0 (At w) fun cs3 => Ret [] (R (.agg cs3)
 w))
theorem XE {a : Nat} {sense : Int} {w : World} {R : Value → World → Prop} (h : jF a sense w R) : zB Tryz.prog 77 #[.pointer (some ⟨a, 0, none⟩), .int .i64 sense] w R := by
 exact zE (args := [.pointer (some ⟨a, 0, none⟩), .int .i64 sense]) (zR [] [] [] [] []) zD Tryz.func77 rfl rfl (by kernel_rfl) h
def uG (a : Nat) (w : World) (R : Value → World → Prop) : Prop :=
 LdA 3 a 3 (At w) fun cs => zB Tryz.prog 140 #[.agg cs] w fun v w => T2 v fun v1 v2 => OpI .i64 v1 fun n => OpI .i64 v2 fun n1 => Ret [] (R (.int .i64 n) w)
theorem wX {a : Nat} {w : World} {R : Value → World → Prop} (h : uG a w R) : zB Tryz.prog 74 #[.pointer (some ⟨a, 0, none⟩)] w R := by
 exact zE (args := [.pointer (some ⟨a, 0, none⟩)]) (zR [] [] [] [] []) zD Tryz.func74 rfl rfl (by kernel_rfl) h
def jG (a : Nat) (w : World) (R : Value → World → Prop) : Prop :=
 LdV a 2 (At w) fun v => OpN v fun b o => zB Tryz.prog 44 #[.pointer (some ⟨b, o, none⟩)] w fun v1 w => OpB v1 fun g => Cb (!g) (Ret [] (R (.tuple #[.int .i64 0, .int
 .i64 4]) w)) (zB Tryz.prog 161 #[.pointer (some ⟨a, 0, none⟩)] w fun v2 w => T2 v2 fun v3 v4 => OpI .i64 v3 fun n => OpB v4 fun g1 => Cb (!g1) (Ret [] (R (.tuple #[.int
 .i64 0, .int .i64 13]) w)) (Ret [] (R (.tuple #[.int .i64 n, .int .i64 0]) w)))
theorem XF {a : Nat} {w : World} {R : Value → World → Prop} (h : jG a w R) : zB Tryz.prog 85 #[.pointer (some ⟨a, 0, none⟩)] w R := by
 exact zE (args := [.pointer (some ⟨a, 0, none⟩)]) (zR [] [] [] [] []) zD Tryz.func85 rfl rfl (by kernel_rfl) h
def j9 (a : Nat) (n : Int) (w : World) (R : Value → World → Prop) : Prop :=
 LdV a 2 (At w) fun v => OpN v fun b o => zB Tryz.prog 44 #[.pointer (some ⟨b, o, none⟩)] w fun v1 w => OpB v1 fun g => Cb (!g) (Ret [] (R (.tuple #[.pointer none, .int
 .i64 4]) w)) (Cb (decide (n < 0)) (Ret [] (R (.tuple #[.pointer none, .int .i64 2]) w)) (LdV a 6 (At w) fun v2 => OpS v2 fun p l c => Cb (decide (n ≥ ((l : Nat) : Int)))
 (Ret [] (R (.tuple #[.pointer none, .int .i64 2]) w)) (LdV a 6 (At w) fun v3 => OpS v3 fun p1 l1 c1 => IdxS p1 l1 n 1 fun b1 o1 => LdV b1 o1 (At w) fun v4 => OpN v4 fun b2
 o2 => Ret [] (R (.tuple #[.pointer (some ⟨b2, o2, none⟩), .int .i64 0]) w))))
theorem VB {a : Nat} {n : Int} {w : World} {R : Value → World → Prop} (h : j9 a n w R) : zB Tryz.prog 86 #[.pointer (some ⟨a, 0, none⟩), .int .i64 n] w R := by
 exact zE (args := [.pointer (some ⟨a, 0, none⟩), .int .i64 n]) (zR [] [] [] [] []) zD Tryz.func86 rfl rfl (by kernel_rfl) h
def wV (a : Nat) (side : Int) (init : Int) (c : Array Value) (w : World) (R : Value → World → Prop) : Prop :=
 Alc 41 c w fun b w => Alc 34 (zc Tryz.prog 34) w fun b1 w => zB Tryz.prog 75 #[.pointer (some ⟨a, 0, none⟩)] w fun v w => LdV a 2 (At w) fun v1 => OpN v1 fun b2 o =>
 zB Tryz.prog 44 #[.pointer (some ⟨b2, o, none⟩)] w fun v2 w => OpB v2 fun g => Cb (!g) (DoQ Tryz.prog (Instr.build 34 #[]) (At w) fun v3 => OpA 3 v3 fun cs => StA 3 b1
 0 cs w fun w => xG Tryz.prog 76 #[.pointer (some ⟨a, 0, none⟩)] w fun w => LdA 3 b1 0 (At w) fun cs1 => R (.agg cs1) w) (Req ((decide (side < 0)) = (decide (side <
 0))) (Req ((decide (side < 0)) = (decide (side < 0))) (Cb (cond (decide (side < 0)) true (decide (side > 1))) (zB Tryz.prog 77 #[.pointer (some ⟨a, 0, none⟩), .int .i64
 5] w fun v4 w => OpA 3 v4 fun cs2 => StA 3 b1 0 cs2 w fun w => xG Tryz.prog 76 #[.pointer (some ⟨a, 0, none⟩)] w fun w => LdA 3 b1 0 (At w) fun cs3 => R (.agg cs3) w)
 (zB Tryz.prog 78 #[.pointer (some ⟨a, 0, none⟩), .int .i64 side] w fun v5 w => OpB v5 fun g1 => Cb (!g1) (zB Tryz.prog 77 #[.pointer (some ⟨a, 0, none⟩), .int .i64
 2] w fun v6 w => OpA 3 v6 fun cs4 => StA 3 b1 0 cs4 w fun w => xG Tryz.prog 76 #[.pointer (some ⟨a, 0, none⟩)] w fun w => LdA 3 b1 0 (At w) fun cs5 => R (.agg cs5) w)
 (zB Tryz.prog 79 #[.pointer (some ⟨a, 0, none⟩), .int .i64 side] w fun v7 w => OpI .i64 v7 fun n => Cb (n != 0) (zB Tryz.prog 77 #[.pointer (some ⟨a, 0, none⟩), .int
 .i64 2] w fun v8 w => OpA 3 v8 fun cs6 => StA 3 b1 0 cs6 w fun w => xG Tryz.prog 76 #[.pointer (some ⟨a, 0, none⟩)] w fun w => LdA 3 b1 0 (At w) fun cs7 => R (.agg
 cs7) w) (xV (σ := (Nat × Nat) × Bool × Unit) (fun J1 => yJ w fun S w => LdV a 12 S fun v9 => OpN v9 fun b3 o1 => LdA 7 b 0 S fun cs8 => (zB Tryz.prog 74
 #[.pointer (some ⟨a, 0, none⟩)] w fun v10 w => OpI .i64 v10 fun n1 => Hld (S w) ((zB Tryz.prog 80 #[.pointer (some ⟨b3, o1, none⟩), .int .i64 n1, .int .i64 init, .agg
 cs8] w fun v11 w => T2 v11 fun v12 v13 => OpA 3 v12 fun cs9 => OpB v13 fun g2 => Hld (S w) (Alc 34 (zc Tryz.prog 34) w fun b4 w => Hld (S w) (StA 3 b4 0 cs9 w fun w => Hld
 (S w) (J1 ((b4, 0), (g2, ())) w)))) ∧ (Alc 34 (zc Tryz.prog 34) w fun b5 w => Hld (S w) (zB Tryz.prog 80 #[.pointer (some ⟨b3, o1, none⟩), .int .i64 n1, .int .i64 init,
 .agg cs8] w fun v14 w => T2 v14 fun v15 v16 => OpA 3 v15 fun cs10 => OpB v16 fun g3 => Hld (S w) (StA 3 b5 0 cs10 w fun w => Hld (S w) (J1 ((b5, 0), (g3, ())) w)))))) ∧
 (Alc 34 (zc Tryz.prog 34) w fun b6 w => Hld (S w) (zB Tryz.prog 74 #[.pointer (some ⟨a, 0, none⟩)] w fun v17 w => OpI .i64 v17 fun n2 => Hld (S w) (zB Tryz.prog 80
 #[.pointer (some ⟨b3, o1, none⟩), .int .i64 n2, .int .i64 init, .agg cs8] w fun v18 w => T2 v18 fun v19 v20 => OpA 3 v19 fun cs11 => OpB v20 fun g4 => Hld (S w) (StA 3 b6
 0 cs11 w fun w => Hld (S w) (J1 ((b6, 0), (g4, ())) w)))))) (fun _ s1 w => Cb s1.2.1 (LdA 3 s1.1.1 s1.1.2 (At w) fun cs12 => StA 3 b1 0 cs12 w fun w => xG Tryz.prog 76
 #[.pointer (some ⟨a, 0, none⟩)] w fun w => LdA 3 b1 0 (At w) fun cs13 => R (.agg cs13) w) (DoQ Tryz.prog (Instr.build 34 #[(0, .int .i64 1)]) (At w) fun v21 => OpA 3 v21
 fun cs14 => Alc 34 (zc Tryz.prog 34) w fun b7 w => StA 3 b7 0 cs14 w fun w => LdV b 0 (At w) fun v22 => OpI .i64 v22 fun n3 => xV (σ := Unit) (fun J2 => Cb (n3 == 2)
 (LdV b 2 (At w) fun v23 => OpI .i64 v23 fun n4 => yC (σ := Int × Unit) (fun _ s3 w K3 => Cb (decide (s3.1 < n4)) (LdV b 1 (At w) fun v24 => OpI .i64 v24 fun n5 => zB
 Tryz.prog 81 #[.pointer (some ⟨a, 0, none⟩), .int .i64 (IntKind.wrap .i64 (n5 + s3.1))] w fun v25 w => T2 v25 fun v26 v27 => OpA 16 v26 fun cs15 => OpI .i64 v27 fun n6 =>
 Alc 37 (zc Tryz.prog 37) w fun b8 w => StA 16 b8 0 cs15 w fun w => Cb (n6 != 0) (zB Tryz.prog 77 #[.pointer (some ⟨a, 0, none⟩), .int .i64 3] w fun v28 w => OpA 3 v28
 fun cs16 => StA 3 b1 0 cs16 w fun w => xG Tryz.prog 76 #[.pointer (some ⟨a, 0, none⟩)] w fun w => LdA 3 b1 0 (At w) fun cs17 => R (.agg cs17) w) (LdV b7 2 (At w) fun
 v29 => OpS v29 fun p l c1 => LdA 16 b8 0 (At w) fun cs18 => DoV Tryz.prog (Instr.buildSlice 32 1 #[(0, .agg cs18)]) w fun v30 w => OpS v30 fun p1 l1 c2 => DoV Tryz.prog
 (Builtin.append_ #[32, 32] 32 #[.slice p l c1, .slice p1 l1 c2]) w fun v31 w => OpS v31 fun p2 l2 c3 => StV b7 2 (.slice p2 l2 c3) w fun w => K3 (IntKind.wrap .i64 (s3.1 +
 1), ()) w)) (J2 () w)) (0, ()) w) (xV (σ := Bool × Unit) (fun J4 => Cb (n3 == 3) (J4 (n3 == 3, ()) w) (J4 (n3 == 6, ()) w)) (fun _ s4 w => Cb s4.1 (LdV b 3 (At w) fun
 v32 => OpS v32 fun p3 l3 c4 => LdV b 0 (At w) fun v33 => OpI .i64 v33 fun n7 => xV (σ := (Option Addr × Nat × Nat) × Unit) (fun J5 => Cb (n7 == 6) (LdV b 2 (At w) fun
 v34 => OpI .i64 v34 fun n8 => DoV Tryz.prog (Instr.makeSlice 32 (.int .i64 n8) (.int .i64 n8)) w fun v35 w => OpS v35 fun p4 l4 c5 => J5 ((p4, l4, c5), ()) w) (J5 ((p3,
 l3, c4), ()) w)) (fun _ s5 w => yC (σ := Int × Unit) (fun _ s6 w K6 => Cb (decide (s6.1 < ((s5.1.2.1 : Nat) : Int))) (IdxS s5.1.1 s5.1.2.1 s6.1 16 fun b9 o2 => LdA 16
 b9 o2 (At w) fun cs19 => Alc 37 (zc Tryz.prog 37) w fun b10 w => StA 16 b10 0 cs19 w fun w => LdV b 1 (At w) fun v36 => OpI .i64 v36 fun n9 => LdA 16 b10 0 (At w) fun cs20
 => zB Tryz.prog 82 #[.pointer (some ⟨a, 0, none⟩), .int .i64 side, .int .i64 (IntKind.wrap .i64 (n9 + s6.1)), .agg cs20] w fun v37 w => OpI .i64 v37 fun n10 => Cb (n10
 != 0) (zB Tryz.prog 77 #[.pointer (some ⟨a, 0, none⟩), .int .i64 13] w fun v38 w => OpA 3 v38 fun cs21 => StA 3 b1 0 cs21 w fun w => xG Tryz.prog 76 #[.pointer
 (some ⟨a, 0, none⟩)] w fun w => LdA 3 b1 0 (At w) fun cs22 => R (.agg cs22) w) (K6 (IntKind.wrap .i64 (s6.1 + 1), ()) w)) (J2 () w)) (0, ()) w)) (Cb (n3 == 5) (LdV b 1 (At
 w) fun v39 => OpI .i64 v39 fun n11 => zB Tryz.prog 81 #[.pointer (some ⟨a, 0, none⟩), .int .i64 n11] w fun v40 w => T2 v40 fun v41 v42 => OpA 16 v41 fun cs23 => OpI
 .i64 v42 fun n12 => Alc 37 (zc Tryz.prog 37) w fun b11 w => StA 16 b11 0 cs23 w fun w => xV (σ := Unit) (fun J7 => Cb (n12 != 0) (zB Tryz.prog 77 #[.pointer (some
 ⟨a, 0, none⟩), .int .i64 3] w fun v43 w => OpA 3 v43 fun cs24 => StA 3 b1 0 cs24 w fun w => xG Tryz.prog 76 #[.pointer (some ⟨a, 0, none⟩)] w fun w => LdA 3 b1 0 (At
 w) fun cs25 => R (.agg cs25) w) (LdA 16 b11 0 (At w) fun cs26 => LdV b 3 (At w) fun v44 => OpS v44 fun p5 l5 c6 => IdxS p5 l5 0 16 fun b12 o3 => LdA 16 b12 o3 (At w) fun
 cs27 => EqB Tryz.prog .neq 37 (.tmp 155) (.tmp 159) (.agg cs26 : Value) (.agg cs27 : Value) (At w) fun g5 => Drw w fun w => Cb g5 (zB Tryz.prog 77 #[.pointer (some ⟨a,
 0, none⟩), .int .i64 14] w fun v45 w => OpA 3 v45 fun cs28 => StA 3 b1 0 cs28 w fun w => xG Tryz.prog 76 #[.pointer (some ⟨a, 0, none⟩)] w fun w => LdA 3 b1 0 (At w)
 fun cs29 => R (.agg cs29) w) (J7 () w))) (fun _ s7 w => yJ w fun S w => LdV b 1 (At w) fun v46 => OpI .i64 v46 fun n13 => LdV b 3 S fun v47 => OpS v47 fun p6 l6 c7 =>
 IdxS p6 l6 1 16 fun b13 o4 => LdA 16 b13 o4 (At w) fun cs30 => zB Tryz.prog 82 #[.pointer (some ⟨a, 0, none⟩), .int .i64 side, .int .i64 n13, .agg cs30] w fun v48 w =>
 OpI .i64 v48 fun n14 => Hld (S w) (Cb (n14 != 0) (zB Tryz.prog 77 #[.pointer (some ⟨a, 0, none⟩), .int .i64 13] w fun v49 w => OpA 3 v49 fun cs31 => StA 3 b1 0 cs31 w
 fun w => xG Tryz.prog 76 #[.pointer (some ⟨a, 0, none⟩)] w fun w => LdA 3 b1 0 (At w) fun cs32 => R (.agg cs32) w) (J2 () w)))) (Cb (n3 == 4) (yC (σ := Unit) (fun _
 s8 w K8 => LdV a 9 (At w) fun v50 => OpN v50 fun b14 o5 => LdV b14 o5 (At w) fun v51 => OpN v51 fun b15 o6 => zB Tryz.prog 83 #[.pointer (some ⟨b15, o6, none⟩)] w fun
 v52 w => OpI .i64 v52 fun n15 => Cb (decide (n15 > 0)) (zB Tryz.prog 84 #[.pointer (some ⟨a, 0, none⟩), .int .i64 side] w fun v53 w => OpI .i64 v53 fun n16 => Cb (n16
 != 0) (zB Tryz.prog 77 #[.pointer (some ⟨a, 0, none⟩), .int .i64 3] w fun v54 w => OpA 3 v54 fun cs33 => StA 3 b1 0 cs33 w fun w => xG Tryz.prog 76 #[.pointer (some
 ⟨a, 0, none⟩)] w fun w => LdA 3 b1 0 (At w) fun cs34 => R (.agg cs34) w) (K8 () w)) (J2 () w)) () w) (J2 () w)))))) (fun _ s2 w => LdA 3 b7 0 (At w) fun cs35 => StA 3 b1 0
 cs35 w fun w => xG Tryz.prog 76 #[.pointer (some ⟨a, 0, none⟩)] w fun w => LdA 3 b1 0 (At w) fun cs36 => R (.agg cs36) w)))))))))
theorem U8 {a : Nat} {side : Int} {init : Int} {c : Array Value} {w : World} {R : Value → World → Prop} (h : wV a side init c w R) : zB Tryz.prog 16 #[.pointer (some ⟨a, 0, none⟩), .int .i64 side, .int .i64 init, .agg c] w R := by
 exact Y0 (args := [.pointer (some ⟨a, 0, none⟩), .int .i64 side, .int .i64 init, .agg c]) (XZ [(21, [(86, (.int .i64))]), (34, [(122, (.int .i64))]), (50, [])] [(1, []), (6, [])] [(32, [(16, .slice)]), (50029, [(109, .bool)])] [] [71, 74, 171] [] [(14, [(10, .ptr), (11, .bool)])]) zD Tryz.func16 rfl rfl (by kernel_rfl) h
def vK (a : Nat) (w : World) (R : Value → World → Prop) : Prop :=
 zB Tryz.prog 75 #[.pointer (some ⟨a, 0, none⟩)] w fun v w => zB Tryz.prog 85 #[.pointer (some ⟨a, 0, none⟩)] w fun v1 w => T2 v1 fun v2 v3 => OpI .i64 v2 fun n =>
 OpI .i64 v3 fun n1 => Cb (n1 != 0) (xG Tryz.prog 76 #[.pointer (some ⟨a, 0, none⟩)] w fun w => R (.int .i64 n1) w) (LdV a 9 (At w) fun v4 => OpN v4 fun b o => LdV b o
 (At w) fun v5 => OpN v5 fun b1 o1 => zB Tryz.prog 83 #[.pointer (some ⟨b1, o1, none⟩)] w fun v6 w => OpI .i64 v6 fun n2 => Cb (n2 == 0) (xG Tryz.prog 76 #[.pointer
 (some ⟨a, 0, none⟩)] w fun w => R (.int .i64 10) w) (zB Tryz.prog 79 #[.pointer (some ⟨a, 0, none⟩), .int .i64 n] w fun v7 w => OpI .i64 v7 fun n3 => Cb (n3 != 0)
 (xG Tryz.prog 76 #[.pointer (some ⟨a, 0, none⟩)] w fun w => R (.int .i64 n3) w) (zB Tryz.prog 84 #[.pointer (some ⟨a, 0, none⟩), .int .i64 n] w fun v8 w => OpI .i64
 v8 fun n4 => xG Tryz.prog 76 #[.pointer (some ⟨a, 0, none⟩)] w fun w => R (.int .i64 n4) w)))
theorem jK {a : Nat} {w : World} {R : Value → World → Prop} (h : vK a w R) : zB Tryz.prog 19 #[.pointer (some ⟨a, 0, none⟩)] w R := by
 exact Y0 (args := [.pointer (some ⟨a, 0, none⟩)]) (zR [] [] [] [] []) zD Tryz.func19 rfl rfl (by kernel_rfl) h
def jI (a : Nat) (first : Bool) (second : Bool) (w : World) (R : Value → World → Prop) : Prop :=
 xV (σ := Bool × Unit) (fun J1 => Cb (!first) (J1 (!second, ()) w) (J1 (false, ()) w)) (fun _ s1 w => Cb s1.1 (R (.int .i64 2) w) (zB Tryz.prog 75 #[.pointer (some
 ⟨a, 0, none⟩)] w fun v w => xV (σ := Unit) (fun J2 => yJ w fun S w => Req (0 ≤ (0 : Int) ∧ (0 : Int) < 2) (StV a (13 + Int.toNat 0 * 2) (.bool false) w fun w => Hld
 (S w) (Req (0 ≤ (1 : Int) ∧ (1 : Int) < 2) (StV a (13 + Int.toNat 1 * 2) (.bool false) w fun w => Hld (S w) (StV a 9 (.pointer none) w fun w => Hld (S w) (StV a 17 (.bool
 false) w fun w => Hld (S w) (J2 () w))))))) (fun _ s2 w => LdV a 12 (At w) fun v1 => OpN v1 fun b o => zB Tryz.prog 88 #[.pointer (some ⟨b, o, none⟩)] w fun v2 w => LdV
 a 2 (At w) fun v3 => OpN v3 fun b1 o1 => zB Tryz.prog 60 #[.pointer (some ⟨b1, o1, none⟩)] w fun v4 w => LdV a 20 (At w) fun v5 => OpI .i64 v5 fun n => xV (σ :=
 Unit) (fun J3 => Cb (decide (n > 0)) (yJ w fun S w => LdV a 2 (At w) fun v6 => OpN v6 fun b2 o2 => LdV a 20 S fun v7 => OpI .i64 v7 fun n1 => zB Tryz.prog 59
 #[.pointer (some ⟨b2, o2, none⟩), .int .i64 (IntKind.wrap .i64 (n1 - 1))] w fun v8 w => OpI .i64 v8 fun n2 => Hld (S w) (StV a 20 (.int .i64 0) w fun w => J3 () w)) (J3 ()
 w)) (fun _ s3 w => LdA 4 a 3 (At w) fun cs => zB Tryz.prog 42 #[.agg cs] w fun v9 w => OpI .u32 v9 fun n3 => DoQ Tryz.prog (Instr.build 138 #[(0, .bool first), (1,
 .bool second)]) (At w) fun v10 => OpA 2 v10 fun cs1 => Alc 138 (zc Tryz.prog 138) w fun b3 w => StA 2 b3 0 cs1 w fun w => LdA 2 a 7 (At w) fun cs2 => yC (σ := (Option
 Addr × Nat × Nat) × (Option Addr × Nat × Nat) × Int × Unit) (fun _ s4 w K4 => Cb (decide (s4.2.2.1 < 2)) (Req (0 ≤ s4.2.2.1 ∧ s4.2.2.1 < 2) (Fld cs2 (Int.toNat s4.2.2.1 *
 1) fun v11 => OpN v11 fun b4 o3 => Req (0 ≤ s4.2.2.1 ∧ s4.2.2.1 < 2) (LdV b3 (0 + Int.toNat s4.2.2.1 * 1) (At w) fun v12 => OpB v12 fun g => Cb (!g) (K4 ((s4.1.1,
 s4.1.2.1, s4.1.2.2), ((s4.2.1.1, s4.2.1.2.1, s4.2.1.2.2), (IntKind.wrap .i64 (s4.2.2.1 + 1), ()))) w) (zB Tryz.prog 89 #[.pointer (some ⟨b4, o3, none⟩)] w fun v13 w =>
 zB Tryz.prog 62 #[.pointer (some ⟨b4, o3, none⟩)] w fun v14 w => OpS v14 fun p l c => zB Tryz.prog 90 #[.slice p l c, .int .u32 n3] w fun v15 w => OpB v15 fun g1 =>
 Cb g1 (DoV Tryz.prog (Instr.buildSlice 69 1 #[(0, .int .i64 s4.2.2.1)]) w fun v16 w => OpS v16 fun p1 l1 c1 => DoV Tryz.prog (Builtin.append_ #[69, 69] 69 #[.slice s4.1.1
 s4.1.2.1 s4.1.2.2, .slice p1 l1 c1]) w fun v17 w => OpS v17 fun p2 l2 c2 => DoV Tryz.prog (Instr.buildSlice 158 1 #[(0, .slice p l c)]) w fun v18 w => OpS v18 fun p3 l3 c3
 => DoV Tryz.prog (Builtin.append_ #[158, 158] 158 #[.slice s4.2.1.1 s4.2.1.2.1 s4.2.1.2.2, .slice p3 l3 c3]) w fun v19 w => OpS v19 fun p4 l4 c4 => K4 ((p2, l2, c2), ((p4,
 l4, c4), (IntKind.wrap .i64 (s4.2.2.1 + 1), ()))) w) (K4 ((s4.1.1, s4.1.2.1, s4.1.2.2), ((s4.2.1.1, s4.2.1.2.1, s4.2.1.2.2), (IntKind.wrap .i64 (s4.2.2.1 + 1), ())))
 w))))) (Cb (((s4.1.2.1 : Nat) : Int) == 0) (xG Tryz.prog 76 #[.pointer (some ⟨a, 0, none⟩)] w fun w => R (.int .i64 13) w) (LdA 2 b3 0 (At w) fun cs3 => zB
 Tryz.prog 91 #[.pointer (some ⟨a, 0, none⟩), .int .u32 n3, .agg cs3, .slice s4.1.1 s4.1.2.1 s4.1.2.2, .slice s4.2.1.1 s4.2.1.2.1 s4.2.1.2.2] w fun v20 w => OpI .i64 v20
 fun n4 => xG Tryz.prog 76 #[.pointer (some ⟨a, 0, none⟩)] w fun w => R (.int .i64 n4) w))) ((none, 0, 0), ((none, 0, 0), (0, ()))) w))))
theorem XH {a : Nat} {first : Bool} {second : Bool} {w : World} {R : Value → World → Prop} (h : jI a first second w R) : zB Tryz.prog 21 #[.pointer (some ⟨a, 0, none⟩), .bool first, .bool second] w R := by
 exact Y0 (args := [.pointer (some ⟨a, 0, none⟩), .bool first, .bool second]) (XZ [(16, [(9, .slice), (10, .slice), (87, (.int .i64))])] [] [(9, [])] [] [71] [] [(1, [(23, .bool)]), (5, [])]) zD Tryz.func21 rfl rfl (by kernel_rfl) h
def uZ (a : Nat) (key : Int) (started : Array Value) (sourcesp : Option Addr) (sourcesl : Nat) (sourcesc : Nat) (listsp : Option Addr) (listsl : Nat) (listsc : Nat) (w : World) (R : Value → World → Prop) : Prop :=
 Alc 138 started w fun b w => LdA 4 a 3 (At w) fun cs => zB Tryz.prog 61 #[.agg cs, .int .u32 key, .slice listsp listsl listsc] w fun v w => OpI .i64 v fun n => Cb (n !=
 0) (Ret [] (R (.int .i64 n) w)) (IdxS sourcesp sourcesl 0 1 fun b1 o => LdV b1 o (At w) fun v1 => OpI .i64 v1 fun n1 => zB Tryz.prog 145 #[.int .u32 key, .int .i64 n1]
 w fun v2 w => T2 v2 fun v3 v4 => OpI .u32 v3 fun n2 => OpI .i64 v4 fun n3 => Cb (n3 != 0) (Ret [] (R (.int .i64 n3) w)) (yC (σ := Int × Unit) (fun _ s1 w K1 => Cb
 (decide (s1.1 < ((sourcesl : Nat) : Int))) (IdxS sourcesp sourcesl s1.1 1 fun b2 o1 => LdV b2 o1 (At w) fun v5 => OpI .i64 v5 fun n4 => Req (0 ≤ n4 ∧ n4 < 2) (LdV a (7 +
 Int.toNat n4 * 1) (At w) fun v6 => OpN v6 fun b3 o2 => DoQ Tryz.prog (Instr.build 246 #[(0, .int .i64 6), (1, .int .u64 (IntKind.wrap .u64 n2))]) (At w) fun v7 => OpA 19
 v7 fun cs1 => zB Tryz.prog 165 #[.pointer (some ⟨b3, o2, none⟩), .agg cs1] w fun v8 w => OpI .i64 v8 fun n5 => Cb (n5 != 0) (Ret [] (R (.int .i64 n5) w)) (K1
 (IntKind.wrap .i64 (s1.1 + 1), ()) w))) (LdA 4 a 3 (At w) fun cs2 => zB Tryz.prog 40 #[.agg cs2, .int .u32 n2] w fun v9 w => OpI .i64 v9 fun n6 => yJ w fun S w =>
 Req (0 ≤ (0 : Int) ∧ (0 : Int) < 2) (LdV a (7 + Int.toNat 0 * 1) S fun v10 => OpN v10 fun b4 o3 => Req (0 ≤ (1 : Int) ∧ (1 : Int) < 2) (LdV a (7 + Int.toNat 1 * 1) S fun
 v11 => OpN v11 fun b5 o4 => LdV a 19 S fun v12 => OpI .i64 v12 fun n7 => zB Tryz.prog 166 #[.slice listsp listsl listsc] w fun v13 w => OpI .u64 v13 fun n8 => Hld (S w)
 (zB Tryz.prog 167 #[.slice listsp listsl listsc] w fun v14 w => OpS v14 fun p l c => Hld (S w) (zB Tryz.prog 139 #[.pointer (some ⟨b4, o3, none⟩), .pointer (some
 ⟨b5, o4, none⟩), .int .i64 n7, .int .u32 n2, .int .u64 n8, .slice p l c] w fun v15 w => T2 v15 fun v16 v17 => OpP v16 (OpI .i64 v17 fun n9 => Hld (S w) (Cb (n9 != 0) (Ret
 [] (R (.int .i64 n9) w)) (yC (σ := Int × Unit) (fun _ s2 w K2 => Cb (decide (s2.1 < 2)) (Req (0 ≤ s2.1 ∧ s2.1 < 2) (LdV b (0 + Int.toNat s2.1 * 1) (At w) fun v18 => OpB
 v18 fun g => Cb (!g) (zB Tryz.prog 143 #[.pointer none, .int .i64 s2.1] w fun v19 w => OpI .i64 v19 fun n10 => K2 (IntKind.wrap .i64 (s2.1 + 1), ()) w) (K2
 (IntKind.wrap .i64 (s2.1 + 1), ()) w))) (zB Tryz.prog 168 #[.pointer none] w fun v20 w => OpI .i64 v20 fun n11 => Cb (n11 != 0) (Ret [] (R (.int .i64 n11) w)) (yJ w
 fun S w => LdA 2 b 0 S fun cs3 => StV a 9 (.pointer none) w fun w => Hld (S w) (StA 2 a 10 cs3 w fun w => Hld (S w) (yC (σ := Int × Unit) (fun _ s3 w K3 => Cb (decide
 (s3.1 < 2)) (Dr1 w fun w => Req (0 ≤ s3.1 ∧ s3.1 < 2) (LdV b (0 + Int.toNat s3.1 * 1) (At w) fun v21 => OpB v21 fun g1 => DoQ Tryz.prog (Instr.build 140 #[(0, .bool g1),
 (1, .int .u32 n2)]) (At w) fun v22 => OpA 2 v22 fun cs4 => Req (0 ≤ s3.1 ∧ s3.1 < 2) (StA 2 a (13 + Int.toNat s3.1 * 2) cs4 w fun w => K3 (IntKind.wrap .i64 (s3.1 + 1),
 ()) w))) (Ret [] (R (.int .i64 0) w))) (0, ()) w))))) (0, ()) w))) fun b6 o5 => OpI .i64 v17 fun n12 => Hld (S w) (Cb (n12 != 0) (Ret [] (R (.int .i64 n12) w)) (yC (σ
 := Int × Unit) (fun _ s4 w K4 => Cb (decide (s4.1 < 2)) (Req (0 ≤ s4.1 ∧ s4.1 < 2) (LdV b (0 + Int.toNat s4.1 * 1) (At w) fun v23 => OpB v23 fun g2 => Cb (!g2) (zB
 Tryz.prog 143 #[.pointer (some ⟨b6, o5, none⟩), .int .i64 s4.1] w fun v24 w => OpI .i64 v24 fun n13 => K4 (IntKind.wrap .i64 (s4.1 + 1), ()) w) (K4 (IntKind.wrap .i64
 (s4.1 + 1), ()) w))) (zB Tryz.prog 168 #[.pointer (some ⟨b6, o5, none⟩)] w fun v25 w => OpI .i64 v25 fun n14 => Cb (n14 != 0) (Ret [] (R (.int .i64 n14) w)) (yJ w
 fun S w => LdA 2 b 0 S fun cs5 => StV a 9 (.pointer (some ⟨b6, o5, none⟩)) w fun w => Hld (S w) (StA 2 a 10 cs5 w fun w => Hld (S w) (yC (σ := Int × Unit) (fun _ s5 w
 K5 => Cb (decide (s5.1 < 2)) (Dr1 w fun w => Req (0 ≤ s5.1 ∧ s5.1 < 2) (LdV b (0 + Int.toNat s5.1 * 1) (At w) fun v26 => OpB v26 fun g3 => DoQ Tryz.prog (Instr.build 140
 #[(0, .bool g3), (1, .int .u32 n2)]) (At w) fun v27 => OpA 2 v27 fun cs6 => Req (0 ≤ s5.1 ∧ s5.1 < 2) (StA 2 a (13 + Int.toNat s5.1 * 2) cs6 w fun w => K5 (IntKind.wrap
 .i64 (s5.1 + 1), ()) w))) (Ret [] (R (.int .i64 0) w))) (0, ()) w))))) (0, ()) w)))))))) (0, ()) w))
theorem ZC {a : Nat} {key : Int} {started : Array Value} {sourcesp : Option Addr} {sourcesl : Nat} {sourcesc : Nat} {listsp : Option Addr} {listsl : Nat} {listsc : Nat} {w : World} {R : Value → World → Prop} (h : uZ a key started sourcesp sourcesl sourcesc listsp listsl listsc w R) : zB Tryz.prog 91 #[.pointer (some ⟨a, 0, none⟩), .int .u32 key, .agg started, .slice sourcesp sourcesl sourcesc, .slice listsp listsl listsc] w R := by
 exact zE (args := [.pointer (some ⟨a, 0, none⟩), .int .u32 key, .agg started, .slice sourcesp sourcesl sourcesc, .slice listsp listsl listsc]) (zR [(8, [(44, (.int .i64))]), (19, [(94, (.int .i64))]), (29, [(118, (.int .i64))])] [] [] [] [85, 87, 88]) zD Tryz.func91 rfl rfl (by kernel_rfl) h
def uB (a : Nat) (n : Int) (w : World) (R : Value → World → Prop) : Prop :=
 zB Tryz.prog 86 #[.pointer (some ⟨a, 0, none⟩), .int .i64 n] w fun v w => T2 v fun v1 v2 => OpP v1 (OpI .i64 v2 fun n1 => Cb (n1 != 0) (Ret [] (R (.int .i64 n1) w))
 (zB Tryz.prog 87 #[.pointer none] w fun v3 w => OpB v3 fun g => Cb (!g) (Ret [] (R (.int .i64 5) w)) (LdV a 6 (At w) fun v4 => OpS v4 fun p l c => yC (σ := Int ×
 Unit) (fun _ s1 w K1 => Cb (decide (s1.1 < ((l : Nat) : Int))) (IdxS p l s1.1 1 fun b o => LdV b o (At w) fun v5 => OpN v5 fun b1 o1 => Cb (s1.1 != n) (zB Tryz.prog 87
 #[.pointer (some ⟨b1, o1, none⟩)] w fun v6 w => OpB v6 fun g1 => Cb g1 (zB Tryz.prog 58 #[.pointer none] w fun v7 w => Ret [] (R (.int .i64 0) w)) (K1 (IntKind.wrap
 .i64 (s1.1 + 1), ()) w)) (K1 (IntKind.wrap .i64 (s1.1 + 1), ()) w)) (Ret [] (R (.int .i64 12) w))) (0, ()) w))) fun b2 o2 => OpI .i64 v2 fun n2 => Cb (n2 != 0) (Ret [] (R
 (.int .i64 n2) w)) (zB Tryz.prog 87 #[.pointer (some ⟨b2, o2, none⟩)] w fun v8 w => OpB v8 fun g2 => Cb (!g2) (Ret [] (R (.int .i64 5) w)) (LdV a 6 (At w) fun v9 => OpS
 v9 fun p1 l1 c1 => yC (σ := Int × Unit) (fun _ s2 w K2 => Cb (decide (s2.1 < ((l1 : Nat) : Int))) (IdxS p1 l1 s2.1 1 fun b3 o3 => LdV b3 o3 (At w) fun v10 => OpN v10
 fun b4 o4 => Cb (s2.1 != n) (zB Tryz.prog 87 #[.pointer (some ⟨b4, o4, none⟩)] w fun v11 w => OpB v11 fun g3 => Cb g3 (zB Tryz.prog 58 #[.pointer (some ⟨b2, o2,
 none⟩)] w fun v12 w => Ret [] (R (.int .i64 0) w)) (K2 (IntKind.wrap .i64 (s2.1 + 1), ()) w)) (K2 (IntKind.wrap .i64 (s2.1 + 1), ()) w)) (Ret [] (R (.int .i64 12) w))) (0,
 ()) w))
theorem qA {a : Nat} {n : Int} {w : World} {R : Value → World → Prop} (h : uB a n w R) : zB Tryz.prog 20 #[.pointer (some ⟨a, 0, none⟩), .int .i64 n] w R := by
 exact zE (args := [.pointer (some ⟨a, 0, none⟩), .int .i64 n]) (zR [(7, [(29, (.int .i64))])] [] [] [] []) zD Tryz.func20 rfl rfl (by kernel_rfl) h
def jJ (a : Nat) (w : World) (R : Value → World → Prop) : Prop :=
 LdV a 9 (At w) fun v => OpP v (Ret [] (R (.int .i64 0) w)) fun b o => LdV a 9 (At w) fun v1 => OpN v1 fun b1 o1 => LdV b1 o1 (At w) fun v2 => OpN v2 fun b2 o2 => zB
 Tryz.prog 83 #[.pointer (some ⟨b2, o2, none⟩)] w fun v3 w => OpI .i64 v3 fun n => Ret [] (R (.int .i64 n) w)
theorem XI {a : Nat} {w : World} {R : Value → World → Prop} (h : jJ a w R) : zB Tryz.prog 18 #[.pointer (some ⟨a, 0, none⟩)] w R := by
 exact zE (args := [.pointer (some ⟨a, 0, none⟩)]) (zR [] [] [] [] [9]) zD Tryz.func18 rfl rfl (by kernel_rfl) h
def uH (a : Nat) (w : World) (R : Value → World → Prop) : Prop :=
 zB Tryz.prog 74 #[.pointer (some ⟨a, 0, none⟩)] w fun v w => OpI .i64 v fun n => Ret [] (R (.int .i64 n) w)
theorem wY {a : Nat} {w : World} {R : Value → World → Prop} (h : uH a w R) : zB Tryz.prog 15 #[.pointer (some ⟨a, 0, none⟩)] w R := by
 exact zE (args := [.pointer (some ⟨a, 0, none⟩)]) (zR [] [] [] [] []) zD Tryz.func15 rfl rfl (by kernel_rfl) h
end Go.Proofs
namespace Go.Proofs
open Go Go.Ev
set_option maxRecDepth 100000
structure AB where
 a : Nat
 g : Geo
 bks : List (Nat × Nat)
 sp : Option Addr
 sc : Nat
 pb : PB
 dk : Nat
 ms : Option Addr
 mc : Nat
structure AS where
 ds : List Dsk
 ps : PS
 ua : Bool
 ub : Bool
 la : Bool
 ea : Int
 lb : Bool
 eb : Int
 split : Bool
 marks : List Int
 later : Int
 d : Dk
def AS.ss (s : AS) : SS := ⟨s.ds, s.ps.pw⟩
def AB.sb (q : AB) : SB := ⟨q.pb.m, q.g, q.bks⟩
def arW (lk : Int) (m : Nat) (g : Geo) (sp : Option Addr) (sl sc : Nat) (ra rb pp : Option Addr) (u0 u1 : Bool) (dk : Nat) (l0 : Bool) (e0 : Int) (l1 : Bool) (e1 : Int) (sx : Bool) (mk : Option Addr) (ml mc : Nat) (room later : Int) : Array Value :=
 #[.int .i32 lk, .int .u32 0, .pointer (some ⟨m, 0, none⟩), .int .i64 g.d, .int .i64 g.c, .int .i64 g.s, .slice sp sl sc, .pointer ra, .pointer rb, .pointer pp, .bool u0, .bool u1, .pointer (some ⟨dk, 0, none⟩), .bool l0, .int .u32 e0, .bool l1, .int .u32 e1, .bool sx, .slice mk ml mc, .int .i64 room, .int .i64 later]
def arC (q : AB) (lk : Int) (s : AS) : Array Value :=
 arW lk q.pb.m q.g q.sp q.g.d.toNat q.sc (some ⟨q.pb.a, 0, none⟩) (some ⟨q.pb.b, 0, none⟩) (some ⟨q.pb.p, 0, none⟩) s.ua s.ub q.dk s.la s.ea s.lb s.eb s.split q.ms q.g.d.toNat q.mc q.pb.room s.later
structure ArAt (w : World) (q : AB) (lk : Int) (s : AS) : Prop where
 cells : Has w q.a (.cells (arC q lk s) 143 (0, 0))
 set : SetAt w q.sb s.ss
 disks : OwnL dLay w q.pb.base 111 q.sp q.g.d.toNat q.sc (q.bks.map Prod.fst)
 pair : PairAt w q.pb s.ps
 desk : DkAt w q.dk s.d
 marks : OwnL iLay w q.pb.base 3 q.ms q.g.d.toNat q.mc s.marks
section plain
variable {w w' : World} {q : AB} {lk : Int} {s : AS}
theorem SetAt.blk {sb : SB} {s : SS} (h : SetAt w sb s) {i : Nat} (hi : vJ sb i) : ∃ cs t, Has w i (.cells cs t (0, 0)) := by
 rcases hi with rfl | hi | hi
 ·exact ⟨_, _, h.main⟩
 ·obtain ⟨br, hb, rfl⟩ := List.mem_map.1 hi
  obtain ⟨j, hj, rfl⟩ := List.mem_iff_getElem.1 hb
  have hl : j < s.ds.length := by rw [← h.len]; exact hj
  exact ⟨_, _, (h.disks j _ _ (List.getElem?_eq_getElem hj) (List.getElem?_eq_getElem hl)).1.cells⟩
 ·obtain ⟨br, hb, rfl⟩ := List.mem_map.1 hi
  obtain ⟨j, hj, rfl⟩ := List.mem_iff_getElem.1 hb
  have hl : j < s.ds.length := by rw [← h.len]; exact hj
  obtain ⟨cs, hc⟩ := (h.disks j _ _ (List.getElem?_eq_getElem hj) (List.getElem?_eq_getElem hl)).1.wI
  exact ⟨_, _, hc⟩
theorem PairAt.zJ6 {p : PB} {s : PS} {S : Nat → Prop} (h : PairAt w p s) (k : Keep S w w') (hS : ∀ i, yE p w i → ¬ S i) (hc : ¬ S p.c) : PairAt w' p s := by
 obtain ⟨pa, la, ca, pb, lb, cb, ha, hb, hne⟩ := h.rams
 have rw_ : ∀ {x : Option Addr} {l c : Nat} {bs : List Int}, OwnL zU w p.base 5 x l c bs → ∀ k, x = some ⟨k, 0, none⟩ → ¬ S k := by
  intro x l c bs ho k hk
  rcases Own.cases ho with ⟨h0, _⟩ | ⟨b', cur, h0, hb', hg, _⟩
  ·rw [h0] at hk; cases hk
  ·rw [h0] at hk; cases hk; exact hS _ (Or.inr (Or.inr (Or.inr (Or.inr (Or.inr ⟨hb', cur, hg⟩)))))
 exact ⟨k.has h.cells (hS _ (Or.inl rfl)), h.cache.keep k hc (hS _ (Or.inr (Or.inl rfl))), k.has (show Has w _ _ from h.main) (hS _ (Or.inr (Or.inr (Or.inl rfl)))),
  ⟨pa, la, ca, pb, lb, cb, ha.keep k (hS _ (Or.inr (Or.inr (Or.inr (Or.inl rfl))))) (rw_ ha.row), hb.keep k (hS _ (Or.inr (Or.inr (Or.inr (Or.inr (Or.inl rfl)))))) (rw_ hb.row), hne⟩, h.ne, h.fit, h.form, h.low⟩
theorem ArAt.zX (h : ArAt w q lk s) (k : Keep (fun _ => False) w w') : ArAt w' q lk s :=
 ⟨k.has h.cells (by simp), h.set.zX k, h.disks.keep k (by simp), h.pair.keep k, k.has (show Has w _ _ from h.desk) (by simp), h.marks.keep k (by simp)⟩
theorem ArAt.share (h : ArAt w q lk s) {i : Nat} (hp : yE q.pb w i) (hs : vJ q.sb i) : i = q.pb.m := by
 obtain ⟨_, _, _, _, _, _, ha, hb, _⟩ := h.pair.rams
 rcases hp with e | e | e | e | e | ⟨_, cs, hc⟩
 ·subst e; exact absurd hs (h.set.typ h.pair.cells (by decide) (by decide) (by decide))
 ·subst e
  obtain ⟨cs, t, hc⟩ := h.set.blk hs
  obtain ⟨_, arr, clk, hm, _⟩ := h.pair.cache
  have := hc.inj hm
  cases this
 ·exact e
 ·subst e; exact absurd hs (h.set.typ ha.cells (by decide) (by decide) (by decide))
 ·subst e; exact absurd hs (h.set.typ hb.cells (by decide) (by decide) (by decide))
 ·exact absurd hs (h.set.typ hc (by decide) (by decide) (by decide))
theorem ArAt.gI (h : ArAt w q lk s) {p : PS} (hp : PairAt w' q.pb p) (k : Keep (yE q.pb w) w w') : ArAt w' q lk { s with ps := p } :=
 ⟨yE.has k h.cells (by decide) h.pair (by decide) (by decide) (by decide), h.set.pow k (fun i hs hf => h.share hf hs) hp.main,
  yE.own k h.disks (by decide) h.pair (by decide) (by decide) (by decide), hp, yE.has k (show Has w _ _ from h.desk) (by decide) h.pair (by decide) (by decide) (by decide),
  yE.own k h.marks (by decide) h.pair (by decide) (by decide) (by decide)⟩
theorem ArAt.put (h : ArAt w q lk s) {lk' : Int} {s' : AS} (h1 : s'.ss = s.ss) (h2 : s'.ps = s.ps) (h3 : s'.d = s.d) (h4 : s'.marks = s.marks) :
  ArAt (w.upd q.a (.cells (arC q lk' s') 143 (0, 0))) q lk' s' := by
 have k : Keep (fun k => k = q.a) w (w.upd q.a (.cells (arC q lk' s') 143 (0, 0))) := Keep.one _ _ _
 have ne : ∀ {i : Nat} {cs : Array Value} {t : TypeId}, Has w i (.cells cs t (0, 0)) → t ≠ 143 → ¬ i = q.a := by
  intro i cs t hi ht e
  subst e
  have := hi.inj h.cells
  simp only [Obj.cells.injEq] at this
  exact ht this.2.1
 refine ⟨h.cells.zL _, by rw [h1]; exact h.set.keep k fun i hi e => h.set.typ h.cells (by decide) (by decide) (by decide) (e ▸ hi), h.disks.keep k (fun b hb => ?_), by rw [h2]; exact h.pair.zJ6 k (fun i hi e => yE.not h.cells (by decide) h.pair (by decide) (by decide) (by decide) (e ▸ hi)) (ne h.pair.cache.1 (by decide)), by rw [h3]; exact k.has (show Has w _ _ from h.desk) (ne h.desk (by decide)), ?_⟩
 ·obtain ⟨_, cur, hh⟩ := yI h.disks b 0 hb
  exact ne hh (by decide)
 ·rw [h4]
  refine h.marks.keep k (fun b hb => ?_)
  obtain ⟨_, cur, hh⟩ := yI h.marks b 0 hb
  exact ne hh (by decide)
end plain
structure NewS (w0 w : World) (g : Geo) (b m dk : Nat) (mk : Option Addr) (mc : Nat) : Prop where
 geo : Has w b (.cells (geoV g) 24 (0, 0))
 ma : MaAt w m pw0
 desk : DkAt w dk dk0
 marks : OwnL iLay w w0.heap.size 3 mk g.d.toNat mc (List.replicate g.d.toNat 0)
 keep : Keep (fun _ => False) w0 w
 hm : w0.heap.size ≤ m
 hd : w0.heap.size ≤ dk
 hb : w0.heap.size ≤ b
section plain
variable {w0 w w' : World} {g : Geo} {b m dk : Nat} {mk : Option Addr} {mc : Nat}
theorem NewS.zX (h : NewS w0 w g b m dk mk mc) (k : Keep (fun _ => False) w w') : NewS w0 w' g b m dk mk mc :=
 ⟨k.has h.geo (by simp), k.has (show Has w _ _ from h.ma) (by simp), k.has (show Has w _ _ from h.desk) (by simp), h.marks.keep k (by simp), h.keep.trans k, h.hm, h.hd, h.hb⟩
theorem NewS.st (h : NewS w0 w g b m dk mk mc) {a : Nat} {c c' : Array Value} (ha : Has w a (.cells c 143 (0, 0))) (h0 : w0.heap.size ≤ a) : NewS w0 (w.upd a (.cells c' 143 (0, 0))) g b m dk mk mc := by
 have k : Keep (fun k => k = a) w (w.upd a (.cells c' 143 (0, 0))) := Keep.one _ _ _
 have ne : ∀ {i : Nat} {cs : Array Value} {t : TypeId}, Has w i (.cells cs t (0, 0)) → t ≠ 143 → ¬ i = a := by
  intro i cs t hi ht e
  subst e
  have := hi.inj ha
  simp only [Obj.cells.injEq] at this
  exact ht this.2.1
 refine ⟨k.has h.geo (ne h.geo (by decide)), k.has (show Has w _ _ from h.ma) (ne h.ma (by decide)), k.has (show Has w _ _ from h.desk) (ne h.desk (by decide)), h.marks.keep k (fun b hb => ?_), h.keep.trans' k (fun i hi e => by omega), h.hm, h.hd, h.hb⟩
 obtain ⟨_, cur, hh⟩ := yI h.marks b 0 hb
 exact ne hh (by decide)
end plain
def arS0 (g : Geo) : AS := ⟨(newS g pw0).ds, ⟨[], 0, 0, true, true, pw0, [], []⟩, true, true, true, 0, true, 0, false, List.replicate g.d.toNat 0, 0, dk0⟩
structure ArFrom (q : AB) (n : Nat) : Prop where
 a : n ≤ q.a
 dk : n ≤ q.dk
 p : n ≤ q.pb.p
 mp : n ≤ q.pb.mp
 m : n ≤ q.pb.m
 ra : n ≤ q.pb.a
 rb : n ≤ q.pb.b
 base : n ≤ q.pb.base
 disks : (SB.mk q.pb.m q.g q.bks).from_ n
theorem TN (n : Nat) (hn : n ≤ 32) (w : World) : ∃ w', (Instr.makeSlice 69 (.int .i64 (n : Int)) (.int .i64 (n : Int))).run Tryz.prog w = .ok (.slice (some ⟨w.heap.size, 0, none⟩) n n) w' ∧ OwnL iLay w' w.heap.size 3 (some ⟨w.heap.size, 0, none⟩) n n (List.replicate n 0) ∧ Keep (fun _ => False) w w' ∧ w'.heap.size = w.heap.size + 1 :=
 gC (P := Tryz.prog) (L := iLay) (x0 := (0 : Int)) (t := 69) (e := 3) (i := (Tryz.prog.info? 3).get (by kernel_rfl)) (z := ((Tryz.prog.info? 3).get (by kernel_rfl)).zero.get (by kernel_rfl)) w (by kernel_rfl) (by kernel_rfl) (by kernel_rfl) (by kernel_rfl) (by kernel_rfl) n
  (by show n * 1 ≤ _; omega) (by have : ((Tryz.prog.info? 3).get (by kernel_rfl)).bytes = 8 := by kernel_rfl
                                 rw [this]; omega) (by simp only [maxLen]; omega)
section calls
variable {w : World} {R : Value → World → Prop}
theorem zLi {g : Geo} (hg : GeoOk g) {room : Int} (h1 : 1 ≤ room) (h2 : room ≤ 64) (hK : ∀ q w', q.g = g → q.pb.room = room → q.pb.sz = 65536 → ArAt w' q 0 (arS0 g) → ArFrom q w.heap.size → Keep (fun _ => False) w w' → R (.tuple #[.pointer (some ⟨q.a, 0, none⟩), .int .i64 0]) w') :
  zB Tryz.prog 13 #[.agg (geoV g), .int .i64 room] w R := by
 apply zAs
 unfold G9
 have hgd := hg.d
 have hdn : ((g.d.toNat : Nat) : Int) = g.d := by omega
 refine zK fun w1 hb1 k1 z1 => ?_
 refine zQ hb1 rfl ?_
 refine N3 hg fun w2 k2 => zA.2 ((zH (p := _)).2 ⟨rfl, rfl, ?_⟩)
 rw [decide_eq_false (show ¬ room < 1 by omega), decide_eq_false (show ¬ room > 64 by omega)]
 refine (zH (p := _)).2 ?_
 have hb2 := k2.has hb1 (by simp)
 have k02 := k1.trans k2
 refine ⟨fun st w' => ∃ m dk mk mc, st.1.2 = 0 ∧ w.heap.size ≤ st.1.1 ∧ Has w' st.1.1 (.cells (arW 0 m ⟨0, 0, 0⟩ none 0 0 none none none false false dk false 0 false 0 false mk g.d.toNat mc room 0) 143 (0, 0)) ∧ NewS w w' g w.heap.size m dk mk mc, ?_, ?_⟩
 ·intro d
  have k2d := k02.dr d
  have hb2d : Has (w2.dr d) _ _ := hb2
  generalize w2.dr d = w3 at *
  refine ⟨fun w' => Has w' w.heap.size (.cells (geoV g) 24 (0, 0)), hb2d, ?_⟩
  refine yO (v := .int .i64 g.d) (fun w' hw => ⟨_, _, _, hw, rfl⟩) (zA.2 ?_)
  have bld : ∀ (m dk : Nat) (mk : Option Addr) (mc : Nat) (d : World), (Instr.build 143 #[(1, .pointer (some ⟨m, 0, none⟩)), (6, .pointer (some ⟨dk, 0, none⟩)), (10, .int .i64 room), (9, .slice mk g.d.toNat mc)]).run Tryz.prog d = .ok (.agg (arW 0 m ⟨0, 0, 0⟩ none 0 0 none none none false false dk false 0 false 0 false mk g.d.toNat mc room 0)) d := fun m dk mk mc d => run_build _ _ _ _ (by kernel_rfl)
  refine ⟨?_, ?_⟩
  ·refine zFu fun m w4 hm hma k4 z4 => zO.2 ⟨k4.has hb2d (by simp), ?_, ?_⟩
   ·refine zEs fun w5 hdk k5 z5 => zO.2 ⟨(k4.trans k5).has hb2d (by simp), ?_⟩
    obtain ⟨w6, hr, o6, k6, z6⟩ := TN g.d.toNat (by omega) w5
    rw [hdn] at hr
    refine ⟨_, _, hr, zC.2 ⟨((k4.trans k5).trans k6).has hb2d (by simp), ?_⟩⟩
    refine zV (fun d => bld _ _ _ _ _) (zJ.2 ⟨rfl, ?_⟩)
    refine zK fun w7 hb7 k7 z7 => ?_
    have k47 := ((k4.trans k5).trans k6).trans k7
    refine ⟨k47.has hb2d (by simp), _, _, _, _, rfl, ?_, hb7, k47.has hb2d (by simp), ((k5.trans k6).trans k7).has (show Has w4 _ _ from hma) (by simp), (k6.trans k7).has (show Has w5 _ _ from hdk) (by simp), (o6.y5 ?_).keep k7 (by simp), k2d.trans k47, ?_, ?_, Nat.le_refl _⟩
    all_goals first | exact ((k2d.trans k4).trans (k5.trans k6)).size | exact ((k2d.trans k4).trans k5).size | exact (k2d.trans k4).size | (rw [hm]; exact k2d.size)
   ·obtain ⟨w6, hr, o6, k6, z6⟩ := TN g.d.toNat (by omega) w4
    rw [hdn] at hr
    refine ⟨_, _, hr, zC.2 ⟨(k4.trans k6).has hb2d (by simp), ?_⟩⟩
    refine zEs fun w5 hdk k5 z5 => zO.2 ⟨((k4.trans k6).trans k5).has hb2d (by simp), ?_⟩
    refine zV (fun d => bld _ _ _ _ _) (zJ.2 ⟨rfl, ?_⟩)
    refine zK fun w7 hb7 k7 z7 => ?_
    have k47 := ((k4.trans k6).trans k5).trans k7
    refine ⟨k47.has hb2d (by simp), _, _, _, _, rfl, ?_, hb7, k47.has hb2d (by simp), ((k6.trans k5).trans k7).has (show Has w4 _ _ from hma) (by simp), k7.has (show Has w5 _ _ from hdk) (by simp), ((o6.y5 ?_).keep k5 (by simp)).keep k7 (by simp), k2d.trans k47, ?_, ?_, Nat.le_refl _⟩
    all_goals first | exact ((k2d.trans k4).trans (k6.trans k5)).size | exact ((k2d.trans k4).trans k6).size | exact (k2d.trans k4).size | (rw [hm]; exact k2d.size)
  ·obtain ⟨w6, hr, o6, k6, z6⟩ := TN g.d.toNat (by omega) w3
   rw [hdn] at hr
   refine ⟨_, _, hr, zC.2 ⟨k6.has hb2d (by simp), ?_⟩⟩
   refine zFu fun m w4 hm hma k4 z4 => zO.2 ⟨(k6.trans k4).has hb2d (by simp), ?_⟩
   refine zEs fun w5 hdk k5 z5 => zO.2 ⟨((k6.trans k4).trans k5).has hb2d (by simp), ?_⟩
   refine zV (fun d => bld _ _ _ _ _) (zJ.2 ⟨rfl, ?_⟩)
   refine zK fun w7 hb7 k7 z7 => ?_
   have k47 := ((k6.trans k4).trans k5).trans k7
   refine ⟨k47.has hb2d (by simp), _, _, _, _, rfl, ?_, hb7, k47.has hb2d (by simp), (k5.trans k7).has (show Has w4 _ _ from hma) (by simp), k7.has (show Has w5 _ _ from hdk) (by simp), (((o6.y5 ?_).keep k4 (by simp)).keep k5 (by simp)).keep k7 (by simp), k2d.trans k47, ?_, ?_, Nat.le_refl _⟩
   all_goals first | exact ((k2d.trans k6).trans (k4.trans k5)).size | exact k2d.size | (rw [hm]; exact (k2d.trans k6).size) | exact ((k2d.trans k6).trans k4).size
 rintro _ ⟨⟨a, o⟩, u⟩ w3 ⟨m, dk, mk, mc, ho, ha, hA, hN⟩
 simp only at ho ha hA ⊢
 subst ho
 clear k1 k2 k02 hb1 hb2 z1
 refine ⟨fun _ w' => ∃ sp sc bks, Has w' a (.cells (arW 0 m g sp g.d.toNat sc none none none false false dk false 0 false 0 false mk g.d.toNat mc room 0) 143 (0, 0)) ∧ NewS w w' g w.heap.size m dk mk mc ∧ SetAt w' ⟨m, g, bks⟩ (newS g pw0) ∧ OwnL dLay w' w.heap.size 111 sp g.d.toNat sc (bks.map Prod.fst) ∧ (SB.mk m g bks).from_ w.heap.size, ?_, ?_⟩
 ·intro d
  have hN := hN.zX (Keep.drew _ w3 d)
  have hA : Has (w3.dr d) _ _ := hA
  generalize w3.dr d = w4 at *
  refine ⟨fun w' => True, trivial, ?_⟩
  refine zQ hN.geo rfl ?_
  refine zG (v := .pointer (some ⟨m, 0, none⟩)) hA rfl (zO.2 ?_)
  refine zOh hg hN.ma fun p c bks w5 hS o5 hfr k5 => yM.2 (zJ.2 ⟨rfl, zA.2 ⟨trivial, ?_⟩⟩)
  have hA5 := k5.has hA (by simp)
  have hN5 := hN.zX k5
  have hz := hN.keep.size
  refine G1 hA5 rfl (by show 0 + 3 + 4 ≤ 21; decide) (NR _ _ _ _) ⟨trivial, p, c, bks, hA5.zL _, hN5.st hA5 ha, ?_, ?_, fun br hbr => ?_⟩
  ·exact hS.keep (Keep.one _ _ _) fun i hi e => hS.typ hA5 (by decide) (by decide) (by decide) (e ▸ hi)
  ·refine (o5.y5 hz).keep (Keep.one _ _ _) fun b hb e => ?_
   obtain ⟨_, cur, hh⟩ := yI o5 b 0 hb
   subst e
   have := hh.inj hA5
   simp only [Obj.cells.injEq] at this
   exact absurd this.2.1 (by decide)
  ·have := hfr br hbr
   omega
 rintro _ _ w4 ⟨sp, sc, bks, hA4, hN4, hS4, o4, hfr⟩
 clear hA hN
 clear w3
 have tne : ∀ {w : World} {i j : Nat} {cs cs' : Array Value} {t t' : TypeId}, Has w i (.cells cs t (0, 0)) → Has w j (.cells cs' t' (0, 0)) → t ≠ t' → ¬ i = j := by
  intro w i j cs cs' t t' hi hj ht e
  subst e
  have := hi.inj hj
  simp only [Obj.cells.injEq] at this
  exact ht this.2.1
 refine zP (σ := Int × Unit) (fun st w' => ∃ k : Nat, st.1 = (k : Int) ∧ k ≤ 2 ∧ ∃ ra rb, w.heap.size ≤ ra ∧ w.heap.size ≤ rb ∧ Has w' a (.cells (arW 0 m g sp g.d.toNat sc (if 0 < k then some ⟨ra, 0, none⟩ else none) (if 1 < k then some ⟨rb, 0, none⟩ else none) none (decide (0 < k)) (decide (1 < k)) dk (decide (0 < k)) 0 (decide (1 < k)) 0 false mk g.d.toNat mc room 0) 143 (0, 0)) ∧
  NewS w w' g w.heap.size m dk mk mc ∧ SetAt w' ⟨m, g, bks⟩ (newS g pw0) ∧ OwnL dLay w' w.heap.size 111 sp g.d.toNat sc (bks.map Prod.fst) ∧ (0 < k → RaAt w' w.heap.size m ra 65536 none 0 0 []) ∧ (1 < k → RaAt w' w.heap.size m rb 65536 none 0 0 [] ∧ ra ≠ rb)) (fun st _ => (2 - st.1).toNat)
  ⟨0, rfl, by omega, w.heap.size, w.heap.size, Nat.le_refl _, Nat.le_refl _, hA4, hN4, hS4, o4, by omega, by omega⟩ ?_
 clear hA4 hN4 hS4 o4
 clear w4
 rintro _ ⟨i, u2⟩ w4 ⟨k, hi, hk, ra, rb, hra, hrb, hA4, hN4, hS4, o4, hr1, hr2⟩
 simp only at hi ⊢
 subst hi
 refine zN (fun hc => ?_) (fun hc => ?_)
 ·have hc : k < 2 := by simp only [decide_eq_true_eq] at hc; omega
  refine ⟨fun _ w' => ∃ ra rb, w.heap.size ≤ ra ∧ w.heap.size ≤ rb ∧ Has w' a (.cells (arW 0 m g sp g.d.toNat sc (if 0 < k + 1 then some ⟨ra, 0, none⟩ else none) (if 1 < k + 1 then some ⟨rb, 0, none⟩ else none) none (decide (0 < k)) (decide (1 < k)) dk (decide (0 < k)) 0 (decide (1 < k)) 0 false mk g.d.toNat mc room 0) 143 (0, 0)) ∧
   NewS w w' g w.heap.size m dk mk mc ∧ SetAt w' ⟨m, g, bks⟩ (newS g pw0) ∧ OwnL dLay w' w.heap.size 111 sp g.d.toNat sc (bks.map Prod.fst) ∧ (0 < k + 1 → RaAt w' w.heap.size m ra 65536 none 0 0 []) ∧ (1 < k + 1 → RaAt w' w.heap.size m rb 65536 none 0 0 [] ∧ ra ≠ rb), ?_, ?_⟩
  ·intro d
   have kd := Keep.drew (fun _ => False) w4 d
   have hN4 := hN4.zX kd
   have hS4 := hS4.zX kd
   have o4 := o4.keep kd (by simp)
   have hr1 : 0 < k → RaAt (w4.dr d) w.heap.size m ra 65536 none 0 0 [] := fun h => (hr1 h).keep kd (by simp) (by simp)
   have hA4 : Has (w4.dr d) _ _ := hA4
   clear kd hr2
   generalize w4.dr d = w5 at *
   refine ⟨fun w' => True, trivial, ?_⟩
   refine zG (v := .pointer (some ⟨m, 0, none⟩)) hA4 rfl (zO.2 ?_)
   refine zP0 (base := w.heap.size) (by decide) (by decide) fun w6 hR k6 z6 => yM.2 (zO.2 (zA.2 ⟨trivial, ⟨by omega, by omega⟩, ?_⟩))
   have hA6 := k6.has hA4 (by simp)
   have hN6 := hN4.zX k6
   have hS6 := hS4.zX k6
   have o6 := o4.keep k6 (by simp)
   have hz5 := hN4.keep.size
   refine xZ hA6 (by show 0 + 7 + Int.toNat (k : Int) * 1 < 21; omega) rfl ⟨trivial, ?_⟩
   have ko : ∀ c, Keep (fun k => k = a) w6 (w6.upd a (.cells c 143 (0, 0))) := fun c => Keep.one _ _ _
   have hS' := fun c => hS6.keep (ko c) fun i hi e => hS6.typ hA6 (by decide) (by decide) (by decide) (e ▸ hi)
   have o' := fun c => o6.keep (ko c) fun b hb e => by
    obtain ⟨_, cur, hh⟩ := yI o6 b 0 hb
    exact tne hh hA6 (by decide) e
   match k, hc with
   | 0, _ => exact ⟨w5.heap.size, rb, hz5, hrb, hA6.zL _, hN6.st hA6 ha, hS' _, o' _, fun _ => hR.keep (ko _) (tne hR.cells hA6 (by decide)) (by simp), by omega⟩
   | 1, _ =>
    have hR1 := (hr1 (by omega)).keep k6 (by simp) (by simp)
    exact ⟨ra, w5.heap.size, hra, hz5, hA6.zL _, hN6.st hA6 ha, hS' _, o' _, fun _ => hR1.keep (ko _) (tne hR1.cells hA6 (by decide)) (by simp), fun _ => ⟨hR.keep (ko _) (tne hR.cells hA6 (by decide)) (by simp), by have := (hr1 (by omega)).cells.lt; omega⟩⟩
  rintro _ _ w5 ⟨ra, rb, hra, hrb, hA5, hN5, hS5, o5, hr3, hr4⟩
  refine ⟨fun _ w' => ∃ ra rb, w.heap.size ≤ ra ∧ w.heap.size ≤ rb ∧ Has w' a (.cells (arW 0 m g sp g.d.toNat sc (if 0 < k + 1 then some ⟨ra, 0, none⟩ else none) (if 1 < k + 1 then some ⟨rb, 0, none⟩ else none) none (decide (0 < k + 1)) (decide (1 < k + 1)) dk (decide (0 < k + 1)) 0 (decide (1 < k + 1)) 0 false mk g.d.toNat mc room 0) 143 (0, 0)) ∧
   NewS w w' g w.heap.size m dk mk mc ∧ SetAt w' ⟨m, g, bks⟩ (newS g pw0) ∧ OwnL dLay w' w.heap.size 111 sp g.d.toNat sc (bks.map Prod.fst) ∧ (0 < k + 1 → RaAt w' w.heap.size m ra 65536 none 0 0 []) ∧ (1 < k + 1 → RaAt w' w.heap.size m rb 65536 none 0 0 [] ∧ ra ≠ rb), ?_, ?_⟩
  ·intro d
   have kd := Keep.drew (fun _ => False) w5 d
   have hN5 := hN5.zX kd
   have hS5 := hS5.zX kd
   have o5 := o5.keep kd (by simp)
   have hr3 := fun h => (hr3 h).keep kd (by simp) (by simp)
   have hr4 := fun h => And.intro ((hr4 h).1.keep kd (by simp) (by simp)) (hr4 h).2
   have hA5 : Has (w5.dr d) _ _ := hA5
   clear kd
   generalize w5.dr d = w6 at *
   refine ⟨fun w' => True, trivial, ⟨by omega, by omega⟩, ?_⟩
   refine xZ hA5 (by show 0 + 13 + Int.toNat (k : Int) * 2 < 21; omega) rfl ⟨trivial, ⟨by omega, by omega⟩, ?_⟩
   refine xZ (hA5.zL _) (by rw [Array.size_setIfInBounds]; show 0 + 10 + Int.toNat (k : Int) * 1 < 21; omega) rfl ⟨trivial, ?_⟩
   rw [zLp]
   have ko : ∀ c, Keep (fun k => k = a) w6 (w6.upd a (.cells c 143 (0, 0))) := fun c => Keep.one _ _ _
   have hS' := fun c => hS5.keep (ko c) fun i hi e => hS5.typ hA5 (by decide) (by decide) (by decide) (e ▸ hi)
   have o' := fun c => o5.keep (ko c) fun b hb e => by
    obtain ⟨_, cur, hh⟩ := yI o5 b 0 hb
    exact tne hh hA5 (by decide) e
   refine ⟨ra, rb, hra, hrb, ?_, hN5.st hA5 ha, hS' _, o' _, fun h => (hr3 h).keep (ko _) (tne (hr3 h).cells hA5 (by decide)) (by simp), fun h => ⟨(hr4 h).1.keep (ko _) (tne (hr4 h).1.cells hA5 (by decide)) (by simp), (hr4 h).2⟩⟩
   match k, hc with
   | 0, _ => exact hA5.zL _
   | 1, _ => exact hA5.zL _
  rintro _ _ w6 ⟨ra, rb, hra, hrb, hA6, hN6, hS6, o6, hr5, hr6⟩
  have e1 : IntKind.wrap .i64 ((k : Int) + 1) = ((k + 1 : Nat) : Int) := by rw [zW (by omega) (by omega)]; omega
  rw [e1]
  exact ⟨_, by show (2 - ((k + 1 : Nat) : Int)).toNat < (2 - (k : Int)).toNat; omega, ⟨k + 1, rfl, by omega, ra, rb, hra, hrb, hA6, hN6, hS6, o6, hr5, hr6⟩, rfl⟩
 ·have hc : k = 2 := by simp only [decide_eq_false_iff_not] at hc; omega
  subst hc
  have hR1 := hr1 (by omega)
  obtain ⟨hR2, hne⟩ := hr2 (by omega)
  have hA4 : Has w4 a (.cells (arW 0 m g sp g.d.toNat sc (some ⟨ra, 0, none⟩) (some ⟨rb, 0, none⟩) none true true dk true 0 true 0 false mk g.d.toNat mc room 0) 143 (0, 0)) := hA4
  clear hr1 hr2
  refine ⟨fun _ w' => ∃ q, q.a = a ∧ q.g = g ∧ q.pb.room = room ∧ q.pb.sz = 65536 ∧ ArAt w' q 0 (arS0 g) ∧ ArFrom q w.heap.size ∧ Keep (fun _ => False) w w', ?_, ?_⟩
  ·intro d
   have kd := Keep.drew (fun _ => False) w4 d
   have hN4 := hN4.zX kd
   have hS4 := hS4.zX kd
   have o4 := o4.keep kd (by simp)
   have hR1 := hR1.keep kd (by simp) (by simp)
   have hR2 := hR2.keep kd (by simp) (by simp)
   have hA4 : Has (w4.dr d) _ _ := hA4
   clear kd
   generalize w4.dr d = w5 at *
   refine ⟨fun w' => True, trivial, ⟨by decide, by decide⟩, ?_⟩
   refine zG (v := .pointer (some ⟨ra, 0, none⟩)) hA4 rfl (zO.2 ⟨⟨by decide, by decide⟩, ?_⟩)
   refine zG (v := .pointer (some ⟨rb, 0, none⟩)) hA4 rfl (zO.2 ?_)
   refine zP8 (base := w.heap.size) hN4.ma ⟨none, 0, 0, none, 0, 0, hR1, hR2, fun k h => by cases h⟩ hne ⟨by decide, by decide⟩ ⟨by decide, by decide⟩ h1 h2 hN4.keep.size fun p c mp w6 hP k6 hp hmp => yM.2 (zO.2 (zA.2 ⟨trivial, ?_⟩))
   have hA6 := k6.has hA4 (by simp)
   have hN6 := hN4.zX k6
   have hS6 := hS4.zX k6
   have o6 := o4.keep k6 (by simp)
   have hz5 := hN4.keep.size
   refine xZ hA6 (by show 0 + 9 < 21; decide) rfl ⟨trivial, ?_⟩
   have ko : ∀ c, Keep (fun k => k = a) w6 (w6.upd a (.cells c 143 (0, 0))) := fun c => Keep.one _ _ _
   have hN7 := hN6.st (c' := (arW 0 m g sp g.d.toNat sc (some ⟨ra, 0, none⟩) (some ⟨rb, 0, none⟩) (some ⟨p, 0, none⟩) true true dk true 0 true 0 false mk g.d.toNat mc room 0)) hA6 ha
   refine ⟨⟨a, g, bks, sp, sc, ⟨p, c, mp, m, ra, rb, w.heap.size, room, 65536⟩, dk, mk, mc⟩, rfl, rfl, rfl, rfl, ⟨hA6.zL _, ?_, ?_, ?_, hN7.desk, hN7.marks⟩, ⟨ha, hN7.hd, by show w.heap.size ≤ p; omega, by show w.heap.size ≤ mp; omega, hN7.hm, hra, hrb, Nat.le_refl _, hfr⟩, hN7.keep⟩
   ·exact hS6.keep (ko _) fun i hi e => hS6.typ hA6 (by decide) (by decide) (by decide) (e ▸ hi)
   ·exact o6.keep (ko _) fun b hb e => by
     obtain ⟨_, cur, hh⟩ := yI o6 b 0 hb
     exact tne hh hA6 (by decide) e
   ·exact hP.zJ6 (ko _) (fun i hi e => yE.not hA6 (by decide) hP (by decide) (by decide) (by decide) (e ▸ hi)) (tne hP.cache.1 hA6 (by decide))
  rintro _ _ w5 ⟨q, hqa, hqg, hqr, hqs, hq, hqf, kq⟩
  subst hqa
  exact zF.2 (hK q w5 hqg hqr hqs hq hqf kq)
end calls
def gJ (s : AS) (f : Bool) : Bool := cond f s.lb s.la
def epA (s : AS) (f : Bool) : Int := cond f s.eb s.ea
def upA (s : AS) (f : Bool) : Bool := cond f s.ub s.ua
def vM (s : AS) (f : Bool) : Bool := s.ps.pw.on && (gJ s f && decide (keyS s.ss ≤ epA s f))
def jL (q : AB) (s : AS) (lba : Int) : Sec × Int := if (getV s.ps.es lba).2.2 = 0 then ((getV s.ps.es lba).1, 0) else TR q.g s.ss lba
theorem zQ7 (q : AB) (lk : Int) (s : AS) : (arC q lk s).extract 7 (7 + 2) = #[.pointer (some ⟨q.pb.a, 0, none⟩), .pointer (some ⟨q.pb.b, 0, none⟩)] := by
 apply Array.ext'
 simp only [Array.toList_extract, List.extract_eq_take_drop]
 rfl
theorem zAh (q : AB) (lk : Int) (s : AS) : (arC q lk s).extract 3 (3 + 4) = setV q.g q.sp q.g.d.toNat q.sc := by
 apply Array.ext'
 simp only [Array.toList_extract, List.extract_eq_take_drop]
 rfl
theorem zNu (q : AB) (lk : Int) (s : AS) : (arC q lk s).extract 3 (3 + 3) = geoV q.g := by
 apply Array.ext'
 simp only [Array.toList_extract, List.extract_eq_take_drop]
 rfl
theorem zD4 (f : Bool) : IntKind.wrap .i64 (1 - zZ f) = zZ (!f) := by cases f <;> decide +kernel
theorem uO (f : Bool) : 0 ≤ zZ f ∧ zZ f < 2 := by cases f <;> decide
section calls
variable {w : World} {q : AB} {lk : Int} {s : AS} {R : Value → World → Prop}
theorem zAe (h : ArAt w q 0 s) (hK : ∀ w', ArAt w' q 1 s → Keep (fun k => k = q.a) w w' → R (.tuple #[]) w') : zB Tryz.prog 75 #[.pointer (some ⟨q.a, 0, none⟩)] w R :=
 zFq Tryz.zIz h.cells rfl (hK _ (h.put (lk' := 1) (s' := s) rfl rfl rfl rfl) (Keep.one _ _ _))
theorem WG (h : ArAt w q 1 s) {K : World → Prop} (hK : ∀ w', ArAt w' q 0 s → Keep (fun k => k = q.a) w w' → K w') : xG Tryz.prog 76 #[.pointer (some ⟨q.a, 0, none⟩)] w K :=
 KB Tryz.zIz h.cells rfl (hK _ (h.put (lk' := 0) (s' := s) rfl rfl rfl rfl) (Keep.one _ _ _))
theorem zK5 (h : ArAt w q lk s) {K : Nat → Nat → Prop} (hK : K q.pb.m 0) : LdV q.a 2 (At w) fun v => OpN v K := zG (v := .pointer (some ⟨q.pb.m, 0, none⟩)) h.cells rfl (zO.2 hK)
theorem OD (h : ArAt w q lk s) (f : Bool) (hK : ∀ w', Keep (fun _ => False) w w' → R (.bool (vM s f)) w') : zB Tryz.prog 78 #[.pointer (some ⟨q.a, 0, none⟩), .int .i64 (zZ f)] w R := by
 apply XC
 unfold jD
 refine ⟨fun st w' => st.1 = vM s f ∧ Keep (fun _ => False) w w', ?_, ?_⟩
 ·intro d
  have kd := Keep.drew (fun _ => False) w d
  have hd := h.zX kd
  generalize w.dr d = w1 at *
  refine ⟨fun w' => Has w' q.a (.cells (arC q lk s) 143 (0, 0)), hd.cells, rfl, rfl, ?_⟩
  have e : (cond (decide (zZ f ≥ 0)) (decide (zZ f ≤ 1)) false) = true := by cases f <;> rfl
  rw [e]
  refine (zT (q := _)).2 ?_
  refine yO (v := .pointer (some ⟨q.pb.m, 0, none⟩)) (fun w' hw => ⟨_, _, _, hw, rfl⟩) (zO.2 ?_)
  refine GB hd.pair.main (zM.2 ⟨hd.cells, ?_⟩)
  refine zN (fun hon => ?_) (fun hon => ⟨hd.cells, by unfold vM; rw [hon]; rfl, kd⟩)
  refine yO (v := .pointer (some ⟨q.pb.p, 0, none⟩)) (fun w' hw => ⟨_, _, _, hw, rfl⟩) (WJ.2 ⟨uO f, ?_⟩)
  refine yO (v := .bool (gJ s f)) (fun w' hw => ⟨_, _, _, hw, by cases f <;> rfl⟩) (zM.2 ?_)
  refine zN (fun hl => ⟨uO f, ?_⟩) (fun hl => ⟨hd.cells, by unfold vM; rw [hon, hl]; rfl, kd⟩)
  refine yO (v := .int .u32 (epA s f)) (fun w' hw => ⟨_, _, _, hw, by cases f <;> rfl⟩) (zA.2 ?_)
  refine xO (cs := setV q.g q.sp q.g.d.toNat q.sc) hd.cells (by show 3 + 4 ≤ 21; decide) (zAh q lk s) ?_
  refine zKs (q := q.sb) hd.set hd.disks.sl hd.disks.cap.1 fun w2 k2 => zA.2 ⟨k2.has hd.cells (by simp), ?_, kd.trans k2⟩
  show decide (epA s f ≥ keyS s.ss) = vM s f
  unfold vM
  rw [hon, hl]
  rfl
 rintro _ ⟨b, u⟩ w1 ⟨hb, k1⟩
 simp only at hb ⊢
 subst hb
 exact zF.2 (hK w1 k1)
theorem LJ (h : ArAt w q lk s) (f : Bool) (hq : upA s (!f) = false ∨ (gJ s (!f) = true ∧ s.split = false)) (hK : R (.int .i64 0) w) : zB Tryz.prog 79 #[.pointer (some ⟨q.a, 0, none⟩), .int .i64 (zZ f)] w R := by
 apply XG
 unfold jH
 simp only [zD4]
 refine ⟨fun st w' => st.1 = true ∧ w' = w, ⟨uO _, ?_⟩, ?_⟩
 ·refine zG (v := .bool (upA s (!f))) h.cells (by cases f <;> rfl) (zM.2 ?_)
  refine zN (fun hu => ⟨rfl, rfl⟩) (fun hu => ⟨uO _, ?_⟩)
  have hu : upA s (!f) = true := by simpa using hu
  rcases hq with hq | ⟨hl, hs⟩
  ·rw [hu] at hq; cases hq
  refine zG (v := .bool (gJ s (!f))) h.cells (by cases f <;> rfl) (zM.2 ?_)
  rw [hl]
  refine (zT (q := _)).2 (zG (v := .bool s.split) h.cells rfl (zM.2 ⟨by rw [hs]; rfl, rfl⟩))
 rintro _ ⟨b, u⟩ w1 ⟨hb, rfl⟩
 simp only at hb ⊢
 subst hb
 exact (zT (q := _)).2 (zF.2 hK)
def xsA (s : PS) (f : Bool) : List Int := cond f s.xb s.xa
theorem G0 (h : ArAt w q lk s) (hr : ∀ f, upA s f = true → 64 ≤ (q.pb.sz - ((xsA s.ps f).length : Int)) / 37) (hK : ∀ w', Keep (fun _ => False) w w' → R (.int .i64 0) w') : zB Tryz.prog 144 #[.pointer (some ⟨q.a, 0, none⟩)] w R := by
 apply ZB
 unfold uY
 refine xO (cs := #[.pointer (some ⟨q.pb.a, 0, none⟩), .pointer (some ⟨q.pb.b, 0, none⟩)]) h.cells (by show 7 + 2 ≤ 21; decide) (zQ7 q lk s) ?_
 refine zP (σ := Int × Unit) (fun st w' => 0 ≤ st.1 ∧ st.1 ≤ 2 ∧ Keep (fun _ => False) w w') (fun st _ => (2 - st.1).toNat) ⟨by decide, by decide, Keep.refl _ _⟩ ?_
 rintro _ ⟨i, u⟩ w1 ⟨hi0, hi2, k1⟩
 simp only at hi0 hi2 ⊢
 refine zN (fun hc => ?_) (fun hc => zF.2 (hK w1 k1))
 have hc : i < 2 := by simpa using hc
 obtain ⟨f, hf⟩ : ∃ f, i = zZ f := by
  by_cases h0 : i = 0
  ·exact ⟨false, h0⟩
  ·exact ⟨true, by show i = 1; omega⟩
 subst hf
 have h1 := h.zX k1
 refine ⟨uO f, .pointer (some ⟨ramB q.pb f, 0, none⟩), by cases f <;> rfl, zO.2 ⟨uO f, ?_⟩⟩
 refine zG (v := .bool (upA s f)) h1.cells (by cases f <;> rfl) (zM.2 ?_)
 have nx : ∀ w2, Keep (fun _ => False) w w2 → ∃ m, m < (2 - zZ f).toNat ∧ ((0 ≤ IntKind.wrap .i64 (zZ f + 1) ∧ IntKind.wrap .i64 (zZ f + 1) ≤ 2 ∧ Keep (fun _ => False) w w2) ∧ (2 - IntKind.wrap .i64 (zZ f + 1)).toNat = m) := fun w2 k2 => by
  rw [zW (by omega) (by omega)]
  exact ⟨_, by omega, ⟨by omega, by omega, k2⟩, rfl⟩
 refine zN (fun hu => ?_) (fun hu => nx w1 k1)
 obtain ⟨pa, la, ca, pb, lb, cb, ha, hb, _⟩ := h1.pair.rams
 have go : ∀ {p : Option Addr} {l c : Nat}, RaAt w1 q.pb.base q.pb.m (ramB q.pb f) q.pb.sz p l c (xsA s.ps f) → ((xsA s.ps f).length : Int) ≤ q.pb.sz → zB Tryz.prog 221 #[.pointer (some ⟨ramB q.pb f, 0, none⟩)] w1 fun v2 w'' => OpI .i64 v2 fun n => Cb (decide (n < 64)) (LdV q.a 9 (At w'') fun v3 => OpN v3 fun b1 o1 => zB Tryz.prog 168 #[.pointer (some ⟨b1, o1, none⟩)] w'' fun v4 w => OpI .i64 v4 fun n1 => Ret [] (R (.int .i64 n1) w))
   (∃ m, m < (2 - zZ f).toNat ∧ ((0 ≤ IntKind.wrap .i64 (zZ f + 1) ∧ IntKind.wrap .i64 (zZ f + 1) ≤ 2 ∧ Keep (fun _ => False) w w'') ∧ (2 - IntKind.wrap .i64 (zZ f + 1)).toNat = m)) := fun hh hl => by
  refine zF0 hh h1.pair.form.1 h1.pair.form.2 (by rw [hh.row.length]; exact hl) fun d => zA.2 ?_
  rw [decide_eq_false (by have := hr f hu; omega)]
  exact (zH (p := _)).2 (nx _ (k1.dr d))
 cases f with
 | false => exact go ha h1.pair.fit.1
 | true => exact go hb h1.pair.fit.2
theorem Y2 (h : ArAt w q lk s) (hK : ∀ w', Keep (fun _ => False) w w' → R (.int .i64 ((q.g.d - 2) * q.g.c * q.g.s)) w') : zB Tryz.prog 74 #[.pointer (some ⟨q.a, 0, none⟩)] w R := by
 apply wX
 unfold uG
 refine xO (cs := geoV q.g) h.cells (by show 3 + 3 ≤ 21; decide) (zNu q lk s) ?_
 exact zPk h.set.geo fun w1 k1 => yM.2 (zA.2 (zA.2 (zF.2 (hK w1 k1))))
theorem zAg (h : ArAt w q lk s) (hK : ∀ w', Keep (fun _ => False) w w' → R (.int .i64 ((q.g.d - 2) * q.g.c * q.g.s)) w') : zB Tryz.prog 15 #[.pointer (some ⟨q.a, 0, none⟩)] w R := by
 apply wY
 unfold uH
 exact Y2 h fun w1 k1 => zA.2 (zF.2 (hK w1 k1))
theorem QL (h : ArAt w q lk s) (hK : R (.int .i64 (s.ps.es.length : Int)) w) : zB Tryz.prog 18 #[.pointer (some ⟨q.a, 0, none⟩)] w R := by
 apply XI
 unfold jJ
 refine zG (v := .pointer (some ⟨q.pb.p, 0, none⟩)) h.cells rfl (WJ.2 ?_)
 refine zG (v := .pointer (some ⟨q.pb.p, 0, none⟩)) h.cells rfl (zO.2 ?_)
 refine zG (v := .pointer (some ⟨q.pb.c, 0, none⟩)) h.pair.cells rfl (zO.2 ?_)
 exact GY h.pair.cache (zA.2 (zF.2 hK))
theorem zNr (h : ArAt w q lk s) (hok : ∀ D ∈ s.ds, jN D) {lba : Int} (h0 : 0 ≤ lba) (h1 : lba < (q.g.d - 2) * q.g.c * q.g.s) (hK : ∀ w', Keep (fun _ => False) w w' → R (.tuple #[.agg (secV (jL q s lba).1), .int .i64 (jL q s lba).2]) w') :
  zB Tryz.prog 81 #[.pointer (some ⟨q.a, 0, none⟩), .int .i64 lba] w R := by
 apply VA
 unfold j8
 unfold jL at hK
 refine zK fun w1 hb1 k1 z1 => ?_
 have h1' := h.zX k1
 refine zG (v := .pointer (some ⟨q.pb.p, 0, none⟩)) h1'.cells rfl (zO.2 ?_)
 refine zBh h1'.pair fun w2 k2 => LS.2 (zJ.2 ⟨rfl, zA.2 (zA.2 ?_)⟩)
 refine zK fun w3 hb3 k3 z3 => ?_
 have hne : w.heap.size ≠ w2.heap.size := by have := k2.size; omega
 refine yB hb3 rfl (by rw [vQ]; rfl) (yS _) ?_
 have k02 := k1.trans k2
 have k03 := k02.trans k3
 have k04 : Keep (fun _ => False) w (w3.upd w2.heap.size (.cells (secV (getV s.ps.es lba).1) 37 (0, 0))) := k03.upd (fun hi => absurd hi (by have := k02.size; omega)) _
 have hb4 := hb3.zL (.cells (secV (getV s.ps.es lba).1) 37 (0, 0))
 have hb1' : Has (w3.upd w2.heap.size (.cells (secV (getV s.ps.es lba).1) 37 (0, 0))) w.heap.size _ := ((k2.trans k3).has hb1 (by simp)).upd hne
 generalize w3.upd w2.heap.size _ = w4 at *
 have bk : ∀ {x : Sec} {w5 : World}, Keep (fun _ => False) w w5 → Keep (fun _ => False) w (w5.upd w.heap.size (.cells (secV x) 37 (0, 0))) := fun k => k.upd (fun hi => absurd hi (by omega)) _
 refine zN (fun hc => ?_) (fun hc => ?_)
 ·have hc : (getV s.ps.es lba).2.2 = 0 := by simpa using hc
  rw [if_pos hc] at hK
  refine zQ hb4 rfl ?_
  refine yB hb1' rfl (by rw [vQ]; rfl) (yS _) ?_
  refine zQ (hb1'.zL _) rfl (zF.2 ?_)
  rw [hc]
  exact hK _ (bk k04)
 ·have hc : ¬ (getV s.ps.es lba).2.2 = 0 := by simpa using hc
  rw [if_neg hc] at hK
  have h4 := h.zX k04
  refine xO (cs := setV q.g q.sp q.g.d.toNat q.sc) h4.cells (by show 3 + 4 ≤ 21; decide) (zAh q lk s) ?_
  refine zLv (q := q.sb) h4.set h4.disks.sl h4.disks.cap.1 hok h0 h1 fun w5 k5 => yM.2 (zJ.2 ⟨rfl, zA.2 ?_⟩)
  have hb5 := k5.has hb1' (by simp)
  refine yB hb5 rfl (by rw [vQ]; rfl) (yS _) ?_
  exact zQ (hb5.zL _) rfl (zF.2 (hK _ (bk (k04.trans k5))))
end calls
end Go.Proofs
