/-
  StripeNever: a step that hurts; a plan that is refused.
-/
import Derived.Test.YtdeaollkgckppaaRefH
import Derived.Test.YtdeaollkgckppaaStI
import Derived.Test.YtdeaollkgckppaaFHit9
namespace Go.Proofs
open Go Go.Ev Go.RowKit
set_option linter.unusedSimpArgs false
set_option linter.unusedVariables false
set_option maxRecDepth 100000

structure Op9 where
  kind : Int
  a : Int
  b : Int
  c : Int
  data : Sec
  epoch : Int
def opL (o : Op9) : List Value := [.int .i64 o.kind, .int .i64 o.a, .int .i64 o.b, .int .i64 o.c] ++ ((secV o.data).toList ++ [.int .u32 o.epoch])
def opV (o : Op9) : Array Value := ⟨opL o⟩
theorem one_opV (o : Op9) : ∀ v ∈ (opV o).toList, oneV v = true := by
  intro v hv
  have hv : v ∈ [Value.int .i64 o.kind, .int .i64 o.a, .int .i64 o.b, .int .i64 o.c] ++ ((secV o.data).toList ++ [Value.int .u32 o.epoch]) := hv
  rcases List.mem_append.1 hv with h | h
  · simp only [List.mem_cons, List.not_mem_nil, or_false] at h
    rcases h with rfl | rfl | rfl | rfl <;> rfl
  · rcases List.mem_append.1 h with h | h
    · exact one_secV _ v h
    · rw [List.mem_singleton.1 h]; rfl
def opLay : Lay Op9 := ⟨21, opL, fun _ => rfl, fun o => one_opV o, by decide⟩
theorem sl_ldC2 {α : Type} {L : Lay α} {w : World} {p : Option Addr} {l : Nat} {xs : List α} (h : SlL L w p l xs) {C : World → Prop} (hC : ∀ w', C w' → SlL L w' p l xs) {i : Int} {x : α} {n : Nat} {v : Value} (hn : L.size = n) (h0 : 0 ≤ i) (hi : xs[i.toNat]? = some x) (hv : (L.row x)[0]? = some v) {K : Value → Prop} (hK : K v) :
    IdxS p l i n fun b o => LdV b o C K := by
  subst hn
  obtain ⟨b, o, rfl, hc⟩ := h.2 _ x hi
  have hlt := (List.getElem?_eq_some_iff.1 hi).1
  refine ⟨b, o, rfl, h0, by have := h.1; omega, v, fun w' hw => ?_, hK⟩
  obtain ⟨b', o', e, hc'⟩ := (hC w' hw).2 _ x hi
  cases e
  have := hc' 0 L.pos
  rw [hv] at this
  exact this
theorem sl_ldAC {α : Type} {L : Lay α} {w : World} {p : Option Addr} {l : Nat} {xs : List α} (h : SlL L w p l xs) {C : World → Prop} (hC : ∀ w', C w' → SlL L w' p l xs) {i : Int} {x : α} {n : Nat} (hn : L.size = n) (h0 : 0 ≤ i) (hi : xs[i.toNat]? = some x) {K : Array Value → Prop} (hK : K (L.row x).toArray) :
    IdxS p l i n fun b o => LdA n b o C K := by
  subst hn
  obtain ⟨b, o, rfl, hc⟩ := h.2 _ x hi
  have hlt := (List.getElem?_eq_some_iff.1 hi).1
  refine ⟨b, o, rfl, h0, by have := h.1; omega, (L.row x).toArray, by simp [L.len], fun w' hw j hj => ?_, hK⟩
  obtain ⟨b', o', e, hc'⟩ := (hC w' hw).2 _ x hi
  cases e
  rw [hc' j hj]
  simp
theorem hurtS_out {g : Geo} {s : SS} (hs : SsOk g s) {i a : Int} (hi : 0 ≤ i ∧ i < g.d) (ha : ¬ (0 ≤ a ∧ a < g.c * g.s)) : hurtS s i a = s := by
  have hl := hs.len _ (hs.get hi.1 hi.2)
  have hn := hs.num
  unfold hurtS hurtD
  rw [if_neg (by rw [hl]; exact ha)]
  have : s.ds.set i.toNat (s.ds.getD i.toNat dsk0) = s.ds := by
    apply List.ext_getElem?
    intro j
    by_cases e : i.toNat = j
    · subst e
      rw [List.getElem?_set_self (by omega), List.getD_eq_getElem?_getD, List.getElem?_eq_getElem (by omega)]
      rfl
    · rw [List.getElem?_set_ne e]
  rw [this]
theorem hurtS_inv' {g : Geo} {s : SS} {now : Int → Sec} (hs : SsOk g s) (h : Inv g s now) {i a : Int} (hi : 0 ≤ i ∧ i < g.d) : Inv g (hurtS s i a) now := by
  by_cases ha : 0 ≤ a ∧ a < g.c * g.s
  · exact hurtS_inv hs h hi ha
  · rw [hurtS_out hs hi ha]; exact h
section calls
variable {w : World} {base : Nat} {g : Geo} {m : Nat} {bks : List (Nat × Nat)} {p : Option Addr} {c : Nat} {s : SS} {R : Value → World → Prop}
theorem zc_lw : (zc Try.prog 37).size = 12 := by kernel_rfl
theorem w_hit {pr : Option Addr} {cr n : Nat} {xs : List RD} (hS : SetAt w ⟨m, g, bks⟩ s) (hD : OwnL dLay w base 59 p g.d.toNat c (bks.map Prod.fst)) (hR : RG w pr g.d.toNat cr n xs) (hn : n ≤ 1000) (hok : SsOk g s) {o : Op9} (hk : o.kind = 4 ∨ o.kind = 6)
    (hK : ∀ pr' cr' xs' s' w', SetAt w' ⟨m, g, bks⟩ s' → RG w' pr' g.d.toNat cr' n xs' → SsOk g s' → s'.pw = s.pw → (∀ i : Nat, (s'.ds.getD i dsk0).key = (s.ds.getD i dsk0).key) → (∀ now, Inv g s now → Inv g s' now) → Keep (SFoot ⟨m, g, bks⟩) w w' → R (.tuple #[.agg (lwV g p c pr' cr' m), .bool true]) w') :
    CallV Try.prog 34 #[.agg (lwV g p c pr cr m), .agg (opV o)] w R := by
  apply C_ravelinlaw09_hit
  unfold F_ravelinlaw09_hit
  have hgd := hok.geo.d
  refine alc_fresh fun w1 hb1 k1 z1 => ?_
  refine alc_fresh fun w2 hb2 k2 z2 => ?_
  refine alc_fresh fun w3 hb3 k3 z3 => ?_
  have hl3 := (k2.trans k3).has hb1 (by simp)
  have ho3 := k3.has hb2 (by simp)
  have k03 := (k1.trans k2).trans k3
  clear hb1 hb2
  generalize hbw : w.heap.size = bl at *
  generalize hbo : w1.heap.size = bo at *
  generalize hbz : w2.heap.size = bz at *
  have zz : bo = bl + 1 ∧ bz = bl + 2 := by omega
  -- the end: what is answered
  have fin : ∀ (wa : World) (pr' : Option Addr) (cr' : Nat) (xs' : List RD) (s' : SS), Has wa bl (.cells (lwV g p c pr' cr' m) 37 (0, 0)) → Has wa bz (.cells (zc Try.prog 37) 37 (0, 0)) → SetAt wa ⟨m, g, bks⟩ s' → RG wa pr' g.d.toNat cr' n xs' → SsOk g s' → s'.pw = s.pw → (∀ i : Nat, (s'.ds.getD i dsk0).key = (s.ds.getD i dsk0).key) → (∀ now, Inv g s now → Inv g s' now) → Keep (SFoot ⟨m, g, bks⟩) w wa →
      LdA 12 bl 0 (At wa) fun cs14 => StA 12 bz 0 cs14 wa fun w => LdA 12 bz 0 (At w) fun cs15 => Ret [] (R (.tuple #[.agg cs15, .bool true]) w) := by
    intro wa pr' cr' xs' s' hl hz hS' hR' h1 h2 h3 h4 k
    refine LdA_all hl rfl ?_
    refine StA_all hz rfl zc_lw (one_lwV _ _ _ _ _ _) ?_
    refine LdA_all (hz.upd_same _) rfl (Ret_nil.2 ?_)
    have ku := Keep.one wa bz (.cells (lwV g p c pr' cr' m) 37 (0, 0))
    refine hK pr' cr' xs' s' _ (hS'.keep ku fun b hb e => by rw [e] at hb; exact hS'.typ hz (by decide) (by decide) (by decide) hb) (hR'.keep ku fun b cs t hb ht e => ?_) h1 h2 h3 h4 (k.trans' ku fun i hi e => by omega)
    refine hb.ne hz ?_ e
    rcases ht with rfl | rfl | rfl <;> (simp only [ne_eq, Obj.cells.injEq]; intro e; exact absurd e.2.1 (by decide))
  have still := fin w3 pr cr xs s hl3 hb3 (hS.keep0 k03) (hR.keep0 k03) hok rfl (fun _ => rfl) (fun _ h => h) (k03.mono fun _ h => h.elim)
  refine LdV_has (v := .int .i64 o.kind) ho3 rfl (OpI_int.2 ?_)
  refine Cb_of (fun e => by have e : o.kind = 9 := by simpa using e
                            omega) (fun _ => ?_)
  refine LdV_has (v := .int .i64 o.kind) ho3 rfl (OpI_int.2 ?_)
  refine Cb_of (fun e => by have e : o.kind = 10 := by simpa using e
                            omega) (fun _ => ?_)
  refine LdV_has (v := .int .i64 o.kind) ho3 rfl (OpI_int.2 ?_)
  refine Cb_of (fun e => by have e : o.kind < 4 := by simpa using e
                            omega) (fun _ => ?_)
  refine LdV_has (v := .int .i64 o.kind) ho3 rfl (OpI_int.2 ?_)
  refine Cb_of (fun e => by have e : o.kind > 7 := by simpa using e
                            omega) (fun _ => ?_)
  refine LdV_has (v := .int .i64 o.a) ho3 rfl (OpI_int.2 ?_)
  refine Cb_of (fun _ => still) (fun e1 => ?_)
  have e1 : ¬ o.a < 0 := by simpa using e1
  refine LdV_has (v := .int .i64 o.a) ho3 rfl (OpI_int.2 ?_)
  refine LdV_has (v := .slice p g.d.toNat c) hl3 rfl (OpS_slice.2 ?_)
  refine Cb_of (fun _ => still) (fun e2 => ?_)
  have e2 : ¬ o.a ≥ ((g.d.toNat : Nat) : Int) := by simpa using e2
  clear still
  have hA : 0 ≤ o.a ∧ o.a < g.d := by omega
  intro d
  have kd := Keep.drew (fun _ => False) w3 d
  have hl4 := kd.has hl3 (by simp)
  have ho4 := kd.has ho3 (by simp)
  have hz4 := kd.has hb3 (by simp)
  have k04 := k03.trans kd
  have hS4 := hS.keep0 k04
  have hD4 := hD.keep k04 (by simp)
  have hR4 := hR.keep0 k04
  have z4 : bz + 1 ≤ (w3.dr d).heap.size := by have := kd.size; omega
  generalize w3.dr d = w4 at *
  clear hl3 ho3 hb3
  refine ⟨fun w' => Has w' bl (.cells (lwV g p c pr cr m) 37 (0, 0)) ∧ Has w' bo (.cells (opV o) 90 (0, 0)) ∧ SlL dLay w' p g.d.toNat (bks.map Prod.fst) ∧ SlL rgLay w' pr g.d.toNat xs, ⟨hl4, ho4, hD4.sl, hR4.row.sl⟩, ?_⟩
  refine LdV_of (v := .slice p g.d.toNat c) (fun w' hw => ⟨_, _, _, hw.1, rfl⟩) (OpS_slice.2 ?_)
  refine LdV_of (v := .int .i64 o.a) (fun w' hw => ⟨_, _, _, hw.2.1, rfl⟩) (OpI_int.2 ?_)
  have hnum : (s.ds.length : Int) = g.d := hS4.num
  obtain ⟨bd, r, D, hbk, hDD, hda, hdl⟩ := hS4.get (i := o.a.toNat) (by omega)
  have hDg : s.ds.getD o.a.toNat dsk0 = D := by rw [List.getD_eq_getElem?_getD, hDD]; rfl
  have hbk : bks[o.a.toNat]? = some (bd, r) := hbk
  refine sl_ldC2 hD4.sl (fun w' hw => hw.2.2.1) (i := o.a) (n := 1) (x := bd) (v := .pointer (some ⟨bd, 0, none⟩)) rfl hA.1 (by rw [List.getElem?_map, hbk]; rfl) rfl (OpN_some.2 ?_)
  refine LdV_of (v := .slice pr g.d.toNat cr) (fun w' hw => ⟨_, _, _, hw.1, rfl⟩) (OpS_slice.2 ?_)
  refine LdV_of (v := .int .i64 o.a) (fun w' hw => ⟨_, _, _, hw.2.1, rfl⟩) (OpI_int.2 ?_)
  have hxl : xs.length = g.d.toNat := (OwnL.length hR4.row).symm
  obtain ⟨x, hx⟩ : ∃ x, xs[o.a.toNat]? = some x := ⟨_, List.getElem?_eq_getElem (by omega)⟩
  have hxm := List.mem_of_getElem? hx
  refine sl_ldAC hR4.row.sl (fun w' hw => hw.2.2.2) (i := o.a) (n := 4) (x := x) rfl hA.1 hx ?_
  refine alc_fresh fun w5 hb5 k5 z5 => ?_
  have hl5 := k5.has hl4 (by simp)
  have ho5 := k5.has ho4 (by simp)
  have hz5 := k5.has hz4 (by simp)
  refine ⟨⟨hl5, ho5, (hD4.keep k5 (by simp)).sl, (hR4.row.keep k5 (by simp)).sl⟩, ?_⟩
  show StA 4 w4.heap.size 0 (rgV x) w5 _
  refine StA_all hb5 rfl zc_rg (one_rgV _) ?_
  have ku := Keep.one w5 w4.heap.size (.cells (rgV x) 66 (0, 0))
  have hb6 := hb5.upd_same (.cells (rgV x) 66 (0, 0))
  have k46 : Keep (fun _ => False) w4 (w5.upd w4.heap.size (.cells (rgV x) 66 (0, 0))) := k5.trans' ku fun i hi e => by omega
  generalize w5.upd w4.heap.size (.cells (rgV x) 66 (0, 0)) = w6 at *
  have hl6 := k46.has hl4 (by simp)
  have ho6 := k46.has ho4 (by simp)
  have hz6 := k46.has hz4 (by simp)
  have hS6 := hS4.keep0 k46
  have hR6 := hR4.keep0 k46
  have hda6 : DiskAt w6 m bd r D := hda.keep k46 (by simp) (by simp)
  refine ⟨⟨hl6, ho6, (hD4.keep k46 (by simp)).sl, hR6.row.sl⟩, ?_⟩
  have k06 : Keep (SFoot ⟨m, g, bks⟩) w w6 := (k04.trans k46).mono fun _ h => h.elim
  generalize hb8 : w4.heap.size = b8 at *
  clear hl4 ho4 hz4 hl5 ho5 hz5 hb5 ku k46 hR4 hD4 hS4 hda
  -- behind the disk has been hurt
  have tail : ∀ (wa : World) (x' : RD) (s' : SS), Has wa bl (.cells (lwV g p c pr cr m) 37 (0, 0)) → Has wa bo (.cells (opV o) 90 (0, 0)) → Has wa bz (.cells (zc Try.prog 37) 37 (0, 0)) → Has wa b8 (.cells (rgV x') 66 (0, 0)) → RdAt wa x' → x'.n = n → RG wa pr g.d.toNat cr n xs → SetAt wa ⟨m, g, bks⟩ s' → SsOk g s' → s'.pw = s.pw → (∀ i : Nat, (s'.ds.getD i dsk0).key = (s.ds.getD i dsk0).key) → (∀ now, Inv g s now → Inv g s' now) → Keep (SFoot ⟨m, g, bks⟩) w wa →
      LdA 7 bl 4 (At wa) fun cs17 => LdV bo 1 (At wa) fun v24 => OpI .i64 v24 fun n13 => LdA 4 b8 0 (At wa) fun cs18 => CallV Try.prog 69 #[.agg cs17, .int .i64 n13, .agg cs18] wa fun v25 w => OpA 7 v25 fun cs19 => StA 7 bl 4 cs19 w fun w => LdA 12 bl 0 (At w) fun cs20 => StA 12 bz 0 cs20 w fun w => LdA 12 bz 0 (At w) fun cs21 => Ret [] (R (.tuple #[.agg cs21, .bool true]) w) := by
    intro wa x' s' hl ho hz hb hx' hxn hRa hSa h1 h2 h3 h4 k
    refine LdA_has (cs := rsetV g pr g.d.toNat cr) hl (by show 4 + 7 ≤ 12; decide) rfl ?_
    refine LdV_has (v := .int .i64 o.a) ho rfl (OpI_int.2 ?_)
    refine LdA_all hb rfl ?_
    refine r9_With hRa.row (by omega) ⟨hA.1, by omega⟩ fun p' c' wb oW kb => OpA_agg.2 ⟨rfl, ?_⟩
    have hlb := kb.has hl (by simp)
    have hzb := kb.has hz (by simp)
    have hSb := hSa.keep0 kb
    have hRb : RG wb p' g.d.toNat c' n (xs.set o.a.toNat x') := ⟨oW, fun y hy => by
      rcases List.mem_or_eq_of_mem_set hy with h | h
      · exact ⟨(hRa.cells y h).1, (hRa.cells y h).2.keep0 kb⟩
      · subst h; exact ⟨hxn, hx'.keep0 kb⟩⟩
    refine StA_of hlb rfl (by show 4 + 7 ≤ 12; decide) (one_rsetV _ _ _ _) ?_
    have e : spl (lwV g p c pr cr m) 4 (rsetV g p' g.d.toNat c') = lwV g p c p' c' m := rfl
    rw [e]
    have ku := Keep.one wb bl (.cells (lwV g p c p' c' m) 37 (0, 0))
    refine fin _ p' c' _ s' (hlb.upd_same _) (ku.has hzb (by omega)) (hSb.keep ku fun b hb e => by rw [e] at hb; exact hSb.typ hlb (by decide) (by decide) (by decide) hb) (hRb.keep ku fun b cs t hb ht e => ?_) h1 h2 h3 h4 ((k.trans' kb fun i hi e => e.elim).trans' ku fun i hi e => by omega)
    refine hb.ne hlb ?_ e
    rcases ht with rfl | rfl | rfl <;> (simp only [ne_eq, Obj.cells.injEq]; intro e; exact absurd e.2.1 (by decide))
  refine LdV_has (v := .int .i64 o.kind) ho6 rfl (OpI_int.2 ?_)
  have hty : ∀ {k : Nat} {cs : Array Value} {t : TypeId} {w' : World} {s' : SS}, SetAt w' ⟨m, g, bks⟩ s' → Has w' k (.cells cs t (0, 0)) → t = 37 ∨ t = 90 ∨ t = 66 ∨ t = 57 ∨ t = 4 → ¬ SFoot ⟨m, g, bks⟩ k := by
    intro k cs t w' s' hS' hk ht
    rcases ht with rfl | rfl | rfl | rfl | rfl <;> exact hS'.typ hk (by decide) (by decide) (by decide)
  have own : ∀ {α : Type} {L : Lay α} {e : TypeId} {q : Option Addr} {l cp : Nat} {ys : List α} {wa : World}, Keep (SFoot ⟨m, g, bks⟩) w6 wa → OwnL L w6 0 e q l cp ys → e = 66 ∨ e = 57 ∨ e = 4 → OwnL L wa 0 e q l cp ys := by
    intro α L e q l cp ys wa k o he
    refine o.keep k fun k hk hs => ?_
    rcases Own.cases o with ⟨h0, _⟩ | ⟨b', cur, h0, hb', hg, _⟩
    · rw [h0] at hk; cases hk
    · rw [h0] at hk
      cases hk
      exact hty hS6 hg (Or.inr (Or.inr he)) hs
  have hx6 := (hR6.cells x hxm).2
  have hxn := (hR6.cells x hxm).1
  refine Cb_of (fun e4 => ?_) (fun e4 => ?_)
  · refine d_Fail hda6 fun w7 hd7 k7 => ?_
    have kf : Keep (SFoot ⟨m, g, bks⟩) w6 w7 := k7.mono fun k hk => Or.inr (Or.inl (by rw [hk]; exact List.mem_map.2 ⟨(bd, r), List.mem_of_getElem? hbk, rfl⟩))
    have hm7 : MaAt w7 m s.pw := k7.has hS6.main (fun e => (hda6.nem hS6.main).1 e.symm)
    have hS7 : SetAt w7 ⟨m, g, bks⟩ (failS s o.a) := by
      unfold failS
      rw [hDg]
      exact hS6.upd hbk (k7.mono fun k hk => Or.inr (Or.inl hk)) hd7 hdl hm7
    have hb7 := kf.has hb6 (hty hS6 hb6 (by simp))
    have hx7 : RdAt w7 x := ⟨own kf hx6.c (by simp), own kf hx6.g (by simp)⟩
    have hR7 : RG w7 pr g.d.toNat cr n xs := ⟨own kf hR6.row (by simp), fun y hy => ⟨(hR6.cells y hy).1, own kf (hR6.cells y hy).2.c (by simp), own kf (hR6.cells y hy).2.g (by simp)⟩⟩
    refine StV_of hb7 (by show 3 < 4; decide) rfl ?_
    have ku := Keep.one w7 b8 (.cells (rgV { x with dead := true }) 66 (0, 0))
    have hl7 := kf.has hl6 (hty hS6 hl6 (by simp))
    have ho7 := kf.has ho6 (hty hS6 ho6 (by simp))
    have hz7 := kf.has hz6 (hty hS6 hz6 (by simp))
    have hne : bl ≠ b8 ∧ bo ≠ b8 ∧ bz ≠ b8 := by omega
    have low : ∀ {α : Type} {L : Lay α} {e : TypeId} {q : Option Addr} {l cp : Nat} {ys : List α}, OwnL L w6 0 e q l cp ys → ∀ k, q = some ⟨k, 0, none⟩ → k < w6.heap.size := by
      intro α L e q l cp ys oo k hk
      exact (oo.lt hk).2
    have hdis : ∀ {α : Type} {L : Lay α} {e : TypeId} {q : Option Addr} {l cp : Nat} {ys : List α}, OwnL L w 0 e q l cp ys → ∀ k, q = some ⟨k, 0, none⟩ → ¬ k = b8 := by
      intro α L e q l cp ys oo k hk e
      have := (oo.lt hk).2
      omega
    have keep8 : ∀ {α : Type} {L : Lay α} {e : TypeId} {q : Option Addr} {l cp : Nat} {ys : List α}, OwnL L w 0 e q l cp ys → OwnL L w7 0 e q l cp ys → OwnL L (w7.upd b8 (.cells (rgV { x with dead := true }) 66 (0, 0))) 0 e q l cp ys := fun oo o7 => o7.keep ku fun k hk e => hdis oo k hk e
    refine tail _ { x with dead := true } (failS s o.a) (ku.has hl7 hne.1) (ku.has ho7 hne.2.1) (ku.has hz7 hne.2.2) (hb7.upd_same _) ⟨keep8 (hR.cells x hxm).2.c hx7.c, keep8 (hR.cells x hxm).2.g hx7.g⟩ hxn ⟨keep8 hR.row hR7.row, fun y hy => ⟨(hR7.cells y hy).1, keep8 (hR.cells y hy).2.c (hR7.cells y hy).2.c, keep8 (hR.cells y hy).2.g (hR7.cells y hy).2.g⟩⟩ (hS7.keep ku fun b hb e => by rw [e] at hb; exact hty hS7 hb7 (by simp) hb) (failS_ok hok hA.1 hA.2) rfl (fun i => failS_key (by omega) i) (fun now h => failS_inv hok h hA.1 hA.2) ((k06.trans kf).trans' ku fun i hi e => by omega)
  · refine Cb_of (fun e5 => by have e4 : ¬ o.kind = 4 := by simpa using e4
                               have e5 : o.kind = 5 := by simpa using e5
                               omega) (fun _ => ?_)
    refine Cb_of (fun e6 => ?_) (fun e6 => by have e4 : ¬ o.kind = 4 := by simpa using e4
                                              have e6 : ¬ o.kind = 6 := by simpa using e6
                                              omega)
    refine LdV_has (v := .int .i64 o.b) ho6 rfl (OpI_int.2 ?_)
    refine d_Hurt hda6 fun e w7 hd7 k7 => OpI_int.2 ?_
    have kf : Keep (SFoot ⟨m, g, bks⟩) w6 w7 := k7.mono fun k hk => Or.inr (Or.inr (by rw [hk]; exact List.mem_map.2 ⟨(bd, r), List.mem_of_getElem? hbk, rfl⟩))
    have hm7 : MaAt w7 m s.pw := k7.has hS6.main (fun e => (hda6.nem hS6.main).2 e.symm)
    have hS7 : SetAt w7 ⟨m, g, bks⟩ (hurtS s o.a o.b) := by
      unfold hurtS
      rw [hDg]
      exact hS6.upd hbk (k7.mono fun k hk => Or.inr (Or.inr hk)) hd7 (by rw [hurtD_len]; exact hdl) hm7
    have hb7 := kf.has hb6 (hty hS6 hb6 (by simp))
    have hx7 : RdAt w7 x := ⟨own kf hx6.c (by simp), own kf hx6.g (by simp)⟩
    have hR7 : RG w7 pr g.d.toNat cr n xs := ⟨own kf hR6.row (by simp), fun y hy => ⟨(hR6.cells y hy).1, own kf (hR6.cells y hy).2.c (by simp), own kf (hR6.cells y hy).2.g (by simp)⟩⟩
    have hl7 := kf.has hl6 (hty hS6 hl6 (by simp))
    have ho7 := kf.has ho6 (hty hS6 ho6 (by simp))
    have hz7 := kf.has hz6 (hty hS6 hz6 (by simp))
    refine LdA_all hb7 rfl ?_
    refine LdV_has (v := .int .i64 o.b) ho7 rfl (OpI_int.2 ?_)
    refine r6_Hurt hx7 (by omega) fun e2 pc cc pg cg w8 hx8 k8 => T2_mk.2 (OpI_int.2 (OpA_agg.2 ⟨rfl, ?_⟩))
    have hb8' := k8.has hb7 (by simp)
    refine StA_all hb8' rfl rfl (one_rgV _) ?_
    generalize hxx : (⟨x.n, pc, cc, pg, cg, x.key, x.dead, x.cs, rdHurt x o.b⟩ : RD) = x' at *
    have hxn' : x'.n = n := by rw [← hxx]; exact hxn
    have ku := Keep.one w8 b8 (.cells (rgV x') 66 (0, 0))
    have hne : bl ≠ b8 ∧ bo ≠ b8 ∧ bz ≠ b8 := by omega
    have hR8 := hR7.keep0 k8
    have hS8 := hS7.keep0 k8
    have hdis : ∀ {α : Type} {L : Lay α} {e : TypeId} {q : Option Addr} {l cp : Nat} {ys : List α}, OwnL L w 0 e q l cp ys → ∀ k, q = some ⟨k, 0, none⟩ → ¬ k = b8 := by
      intro α L e q l cp ys oo k hk e
      have := (oo.lt hk).2
      omega
    have hK8 : RG (w8.upd b8 (.cells (rgV x') 66 (0, 0))) pr g.d.toNat cr n xs := ⟨hR8.row.keep ku fun k hk e => hdis hR.row k hk e, fun y hy => ⟨(hR8.cells y hy).1, (hR8.cells y hy).2.c.keep ku fun k hk e => hdis (hR.cells y hy).2.c k hk e, (hR8.cells y hy).2.g.keep ku fun k hk e => hdis (hR.cells y hy).2.g k hk e⟩⟩
    refine tail _ x' (hurtS s o.a o.b) (ku.has (k8.has hl7 (by simp)) hne.1) (ku.has (k8.has ho7 (by simp)) hne.2.1) (ku.has (k8.has hz7 (by simp)) hne.2.2) (hb8'.upd_same _) ⟨hx8.c.keep ku fun k hk e => OwnL.neH hx8.c hb8' (by decide) (by rw [hk, e]), hx8.g.keep ku fun k hk e => OwnL.neH hx8.g hb8' (by decide) (by rw [hk, e])⟩ hxn' hK8 (hS8.keep ku fun b hb e => by rw [e] at hb; exact hty hS8 hb8' (by simp) hb) (hurtS_ok hok hA _) rfl (fun i => hurtS_key (by omega) i) (fun now h => hurtS_inv' hok h hA) (((k06.trans kf).trans' k8 fun i hi e => e.elim).trans' ku fun i hi e => by omega)
/-! ### plans that are refused -/
theorem l_MapN (h : GeoOk g) {lba : Int} (h0 : ¬ (0 ≤ lba ∧ lba < capG g)) (hK : ∀ w', Keep (fun _ => False) w w' → R (.tuple #[.agg (spotV (0, 0, 0)), .agg (plcV ⟨0, 0⟩), .int .i64 2]) w') :
    CallV Try.prog 44 #[.agg (geoV g), .int .i64 lba] w R := by
  apply C_layout_Map
  unfold F_layout_Map
  refine alc_fresh fun w1 hb1 k1 z1 => ?_
  refine alc_fresh fun w2 hb2 k2 z2 => ?_
  refine alc_fresh fun w3 hb3 k3 z3 => ?_
  have k23 := k2.trans k3
  refine LdA_all (k23.has hb1 (by simp)) rfl ?_
  refine l_Cap h fun w4 k4 => ?_
  refine T2_mk.2 (OpI_int.2 (OpI_int.2 ((Cb_false (p := _)).2 ⟨rfl, rfl, rfl, ?_⟩)))
  have hc : cond (decide (lba < 0)) true (decide (lba ≥ (g.d - 2) * g.c * g.s)) = true := by
    have hcap : capG g = (g.d - 2) * g.c * g.s := rfl
    rw [← hcap]
    by_cases e : lba < 0
    · rw [decide_eq_true e]; rfl
    · rw [decide_eq_false e]
      show decide (lba ≥ capG g) = true
      exact decide_eq_true (by omega)
  rw [hc]
  refine (Cb_true (q := _)).2 ?_
  have hs4 := k4.has (k3.has hb2 (by simp)) (by simp)
  have hp4 := k4.has hb3 (by simp)
  refine DoQ_of (v := .agg (spotV (0, 0, 0))) (fun _ => run_build _ _ _ _ (by kernel_rfl)) (OpA_agg.2 ⟨rfl, ?_⟩)
  refine DoQ_of (v := .agg (plcV ⟨0, 0⟩)) (fun _ => run_build _ _ _ _ (by kernel_rfl)) (OpA_agg.2 ⟨rfl, ?_⟩)
  have k04 := (k1.trans k23).trans k4
  refine StA_all hs4 rfl (by kernel_rfl) (by intro v hv; have hv : v ∈ [Value.int .i64 0, .int .i64 0, .int .i64 0] := hv; simp only [List.mem_cons, List.not_mem_nil, or_false] at hv; rcases hv with rfl | rfl | rfl <;> rfl) ?_
  have ku := Keep.one w4 w1.heap.size (.cells (spotV (0, 0, 0)) 51 (0, 0))
  have hp5 := ku.has hp4 (by omega)
  refine StA_all hp5 rfl (by kernel_rfl) (by intro v hv; have hv : v ∈ [Value.int .i64 0, .int .i64 0] := hv; simp only [List.mem_cons, List.not_mem_nil, or_false] at hv; rcases hv with rfl | rfl <;> rfl) ?_
  have kv := Keep.one (w4.upd w1.heap.size (.cells (spotV (0, 0, 0)) 51 (0, 0))) w2.heap.size (.cells (plcV ⟨0, 0⟩) 53 (0, 0))
  refine LdA_all (kv.has (hs4.upd_same _) (by omega)) rfl ?_
  refine LdA_all (hp5.upd_same _) rfl (Ret_nil.2 ?_)
  exact hK _ ((k04.trans' ku fun i hi e => by omega).trans' kv fun i hi e => by omega)
theorem st_PlanN (hS : SetAt w ⟨m, g, bks⟩ s) (hD : OwnL dLay w base 59 p g.d.toNat c (bks.map Prod.fst)) {lba : Int} (h0 : ¬ (0 ≤ lba ∧ lba < capG g)) {data : Array Value} (hK : ∀ w', Keep (fun _ => False) w w' → R (.tuple #[.slice none 0 0, .int .i64 2]) w') :
    CallV Try.prog 17 #[.agg (setV g p g.d.toNat c), .int .i64 lba, .agg data] w R := by
  apply C_stripe_Plan
  unfold F_stripe_Plan
  refine alc_fresh fun w1 hb1 k1 z1 => ?_
  refine alc_fresh fun w2 hb2 k2 z2 => ?_
  have hb12 := k2.has hb1 (by simp)
  have k02 := k1.trans k2
  refine LdA_all hb12 rfl ?_
  refine st_Check (hS.keep0 k02) (hD.keep k02 (by simp)).sl hD.cap.1 fun w3 k3 => OpI_int.2 ((Cb_false (p := _)).2 ?_)
  refine LdA_has (cs := geoV g) (k3.has hb12 (by simp)) (by show 0 + 3 ≤ 4; decide) rfl ?_
  refine l_MapN hS.geo h0 fun w4 k4 => T3_mk.2 (OpA_agg.2 ⟨rfl, OpA_agg.2 ⟨rfl, OpI_int.2 ?_⟩⟩)
  refine alc_fresh fun w5 hb5 k5 z5 => ?_
  refine alc_fresh fun w6 hb6 k6 z6 => ?_
  have hb56 := k6.has hb5 (by simp)
  refine StA_all hb56 rfl (by kernel_rfl) (by intro v hv; have hv : v ∈ [Value.int .i64 0, .int .i64 0, .int .i64 0] := hv; simp only [List.mem_cons, List.not_mem_nil, or_false] at hv; rcases hv with rfl | rfl | rfl <;> rfl) ?_
  have ku := Keep.one w6 w4.heap.size (.cells (spotV (0, 0, 0)) 51 (0, 0))
  have hb7 := ku.has hb6 (by omega)
  refine StA_all hb7 rfl (by kernel_rfl) (by intro v hv; have hv : v ∈ [Value.int .i64 0, .int .i64 0] := hv; simp only [List.mem_cons, List.not_mem_nil, or_false] at hv; rcases hv with rfl | rfl <;> rfl) ?_
  have kv := Keep.one (w6.upd w4.heap.size (.cells (spotV (0, 0, 0)) 51 (0, 0))) w5.heap.size (.cells (plcV ⟨0, 0⟩) 53 (0, 0))
  refine (Cb_true (q := _)).2 (Ret_nil.2 (hK _ ?_))
  have k06 := (((k02.trans k3).trans k4).trans k5).trans k6
  have z4 := ((k02.trans k3).trans k4).size
  exact (k06.trans' ku fun i hi e => by omega).trans' kv fun i hi e => by omega
end calls
end Go.Proofs
