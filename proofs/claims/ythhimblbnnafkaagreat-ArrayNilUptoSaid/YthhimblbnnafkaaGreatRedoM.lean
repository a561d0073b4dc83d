/-
  THE JOURNAL OVER A SET: Redo; what stands beside a memory and a set; awake.
-/
import Derived.Test.YthhimblbnnafkaaGreatIntQ
import Derived.Test.YthhimblbnnafkaaGreatFLaw10
namespace Go.Proofs
open Go Go.Ev Go.RowKit
set_option linter.unusedSimpArgs false
set_option linter.unusedVariables false
set_option maxRecDepth 100000

theorem sl_ldAF {α : Type} {L : Lay α} {w : World} {p : Option Addr} {l : Nat} {xs : List α} (h : SlL L w p l xs) {C : World → Prop} (hC : ∀ w', C w' → SlL L w' p l xs) {i : Int} {x : α} {n t k : Nat} {cs : Array Value} (hn : L.size = n) (h0 : 0 ≤ i) (hi : xs[i.toNat]? = some x) (hk : cs.size = k) (ht : t + k ≤ n) (hcs : ∀ j, j < k → (L.row x)[t + j]? = cs[j]?) {K : Array Value → Prop} (hK : K cs) :
    IdxS p l i n fun b o => LdA k b (o + t) C K := by
  subst hn
  obtain ⟨b, o, rfl, hc⟩ := h.2 _ x hi
  have hlt := (List.getElem?_eq_some_iff.1 hi).1
  refine ⟨b, o, rfl, h0, by have := h.1; omega, cs, hk, fun w' hw j hj => ?_, hK⟩
  obtain ⟨b', o', e, hc'⟩ := (hC w' hw).2 _ x hi
  cases e
  have := hc' (t + j) (by omega)
  rw [hcs j hj] at this
  rw [show o + i.toNat * L.size + t + j = o + i.toNat * L.size + (t + j) by omega]
  exact this
theorem sl_ldFC {α : Type} {L : Lay α} {w : World} {p : Option Addr} {l : Nat} {xs : List α} (h : SlL L w p l xs) {C : World → Prop} (hC : ∀ w', C w' → SlL L w' p l xs) {i : Int} {x : α} {n t : Nat} {v : Value} (hn : L.size = n) (h0 : 0 ≤ i) (hi : xs[i.toNat]? = some x) (hv : (L.row x)[t]? = some v) {K : Value → Prop} (hK : K v) :
    IdxS p l i n fun b o => LdV b (o + t) C K := by
  subst hn
  obtain ⟨b, o, rfl, hc⟩ := h.2 _ x hi
  have hlt := (List.getElem?_eq_some_iff.1 hi).1
  have ht : t < L.size := by have := (List.getElem?_eq_some_iff.1 hv).1; rwa [L.len] at this
  refine ⟨b, o, rfl, h0, by have := h.1; omega, v, fun w' hw => ?_, hK⟩
  obtain ⟨b', o', e, hc'⟩ := (hC w' hw).2 _ x hi
  cases e
  rw [hc' t ht, hv]
theorem at_sl {α : Type} {L : Lay α} {w : World} {p : Option Addr} {l : Nat} {xs : List α} (h : SlL L w p l xs) : ∀ w', At w w' → SlL L w' p l xs := fun w' ⟨d, hd⟩ => by subst hd; exact h
theorem own_lowI {α : Type} {L : Lay α} {w : World} {base : Nat} {e : TypeId} {p : Option Addr} {l c : Nat} {xs : List α} (h : OwnL L w base e p l c xs) : ∀ k, p = some ⟨k, 0, none⟩ → base ≤ k := fun k hk => by
  rcases Own.cases h with ⟨h0, _⟩ | ⟨b', cur, h0, hb, _, _⟩
  · rw [h0] at hk; cases hk
  · rw [h0] at hk; cases hk; exact hb
theorem own_has {α : Type} {L : Lay α} {w : World} {base : Nat} {e : TypeId} {p : Option Addr} {l c : Nat} {xs : List α} (h : OwnL L w base e p l c xs) : ∀ k o, p = some ⟨k, o, none⟩ → o = 0 ∧ ∃ cur, Has w k (.cells cur e (0, 0)) := fun k o hk => by
  rcases Own.cases h with ⟨h0, _⟩ | ⟨b', cur, h0, hb, hg, _⟩
  · rw [h0] at hk; cases hk
  · rw [h0] at hk; cases hk; exact ⟨rfl, cur, hg⟩
theorem SetAt.pow {w w' : World} {q : SB} {s : SS} {S : Nat → Prop} {pw : Pow} (h : SetAt w q s) (k : Keep S w w') (hS : ∀ i, SFoot q i → S i → i = q.m) (hm : MaAt w' q.m pw) : SetAt w' q ⟨s.ds, pw⟩ := by
  refine ⟨hm, h.geo, h.len, h.num, fun i br D hb hD => ?_, h.nodb, h.nodr⟩
  obtain ⟨h1, h2⟩ := h.disks i br D hb hD
  obtain ⟨n1, n2⟩ := h1.nem h.main
  refine ⟨h1.keep k (fun e => n1 (hS _ (Or.inr (Or.inl ?_)) e)) (fun e => n2 (hS _ (Or.inr (Or.inr ?_)) e)), h2⟩
  · exact List.mem_map.2 ⟨br, List.mem_of_getElem? hb, rfl⟩
  · exact List.mem_map.2 ⟨br, List.mem_of_getElem? hb, rfl⟩
section calls
variable {w : World} {R : Value → World → Prop}
theorem i_Redo1 {g : Geo} {m : Nat} {bks : List (Nat × Nat)} {s : SS} {base : Nat} {dp : Option Addr} {dc : Nat} (hS : SetAt w ⟨m, g, bks⟩ s) (hD : OwnL dLay w base 111 dp g.d.toNat dc (bks.map Prod.fst)) {lp q : Option Addr} {lc ql qc : Nat} {rs : List Rec} {v ep : Int} (h : SlL hLay w lp 1 [(q, ql, qc)]) (hq : SlL rLay w q ql rs) (hqc : ql ≤ qc) (hl : ql ≤ 100000) (hlba : ∀ x ∈ rs, 0 ≤ x.lba ∧ x.lba ≤ 2147483647) (hv : ∀ x ∈ rs, x.kind = 4 ∨ x.kind = 5 → x.ver = v)
    (hK : ∀ w', SetAt w' ⟨m, g, bks⟩ (applyS g s (pendL v rs) ep).2 → Keep (SFoot ⟨m, g, bks⟩) w w' → R (.int .i64 (applyS g s (pendL v rs) ep).1) w') :
    CallV Tryz.prog 61 #[.agg (setV g dp g.d.toNat dc), .int .u32 ep, .slice lp 1 lc] w R := by
  apply C_intent_Redo
  unfold F_intent_Redo
  refine alc_fresh fun w1 hb1 k1 z1 => ?_
  refine LdA_all hb1 rfl ?_
  refine st_Check (hS.keep0 k1) (hD.keep k1 (by simp)).sl hD.cap.1 fun w2 k2 => OpI_int.2 ((Cb_false (p := _)).2 ?_)
  have k02 := k1.trans k2
  have hb2 := k2.has hb1 (by simp)
  refine ⟨fun st' w' => SetAt w' ⟨m, g, bks⟩ (applyS g s (pendL v rs) ep).2 ∧ Keep (SFoot ⟨m, g, bks⟩) w w' ∧ st'.1 = (applyS g s (pendL v rs) ep).1, ?_, ?_⟩
  · intro d
    have kd := k02.trans (Keep.drew (fun _ => False) w2 d)
    have hb3 := hb2.dr d
    generalize w2.dr d = w3 at *
    refine ⟨fun w' => Has w' w.heap.size (.cells (setV g dp g.d.toNat dc) 51 (0, 0)), hb3, ?_⟩
    refine LdA_of (cs := setV g dp g.d.toNat dc) rfl (fun w' hw => ⟨_, _, _, hw, Nat.le_refl 4, rfl⟩) ?_
    refine i_Pending1 (h.keepB kd (by simp)) (hq.keepB kd (by simp)) hqc hl hlba hv fun p' c' w4 o4 k4 => OpS_slice.2 ⟨k4.has hb3 (by simp), ?_⟩
    have k04 := kd.trans k4
    have hb4 := k4.has hb3 (by simp)
    have hS4 := hS.keep0 k04
    have hD4 := hD.keep k04 (by simp)
    have hpl : (pendL v rs).length ≤ 1000000 := by
      have hg : ∀ ys : List Rec, (grp v ys).length ≤ ys.length := fun ys => by
        unfold grp
        rw [List.length_map]
        exact List.length_filter_le _ _
      have := hq.1
      unfold pendL
      split
      · simp
      · split
        · simp
        · rename_i n _
          have := hg (rs.take n)
          rw [List.length_take] at this
          omega
    refine st_Apply hS4 hD4.sl hD4.cap.1 (fun b o e hb => ?_) o4.sl hpl (fun b o e hb => ?_) fun w5 hS5 k5 => OpI_int.2 ⟨k5.has hb4 (hS4.typ hb4 (by decide) (by decide) (by decide)), hS5, ((k04.mono fun _ h => h.elim).trans k5), rfl⟩
    · obtain ⟨_, cur, hh⟩ := own_has hD4 b o e
      exact hS4.typ hh (by decide) (by decide) (by decide) hb
    · obtain ⟨_, cur, hh⟩ := own_has o4 b o e
      exact hS4.typ hh (by decide) (by decide) (by decide) hb
  · rintro _ ⟨n, u⟩ w3 ⟨h1, h2, h3⟩
    simp only at h3 ⊢
    subst h3
    exact Ret_nil.2 (hK w3 h1 h2)
/-! ### the records of a group -/
def recsI (v : Int) (xs : List PutS) : List Rec := xs.map (recI v) ++ [recK 4 v]
theorem putR_recI {v : Int} {x : PutS} (h : InR x) : putR (recI v x) = sealP x := by
  obtain ⟨⟨a1, a2⟩, a3, a4⟩ := h
  unfold putR recI sealP
  have e1 : (x.plc.dk * 1024 + x.plc.at_) / 1024 = x.plc.dk := by omega
  have e2 : (x.plc.dk * 1024 + x.plc.at_) % 1024 = x.plc.at_ := by omega
  simp only [e1, e2]
theorem grp_recI {v : Int} : ∀ {xs : List PutS}, (∀ x ∈ xs, InR x) → grp v (xs.map (recI v)) = xs.map sealP
  | [], _ => rfl
  | x :: xs, h => by
    have ih := grp_recI (v := v) (xs := xs) fun y hy => h y (by simp [hy])
    unfold grp at ih ⊢
    have e : isI v (recI v x) = true := by simp [isI, recI]
    rw [List.map_cons, List.filter_cons, if_pos e, List.map_cons, ih, putR_recI (h x (by simp)), List.map_cons]
theorem dn_recsI (v : Int) (xs : List PutS) : dn (recsI v xs) = false := by
  unfold dn recsI
  rw [List.any_append, List.any_map]
  have : (xs.any ((fun x : Rec => x.kind == 5) ∘ recI v)) = false := by
    rw [List.any_eq_false]
    intro x _
    simp [recI]
  rw [this]
  rfl
theorem fst4_recsI (v : Int) (xs : List PutS) : fst4 (recsI v xs) = some xs.length := by
  unfold fst4 recsI
  rw [List.findIdx?_append]
  have : (xs.map (recI v)).findIdx? (fun x => x.kind == 4) = none := by
    rw [List.findIdx?_eq_none_iff]
    intro x hx
    obtain ⟨y, _, rfl⟩ := List.mem_map.1 hx
    rfl
  rw [this]
  simp [recK, List.findIdx?_cons]
theorem pend_recsI {v : Int} {xs : List PutS} (h : ∀ x ∈ xs, InR x) : pendL v (recsI v xs) = xs.map sealP := by
  unfold pendL
  rw [if_neg (by rw [dn_recsI]; decide), fst4_recsI]
  show grp v ((recsI v xs).take xs.length) = _
  unfold recsI
  rw [List.take_left' (by simp)]
  exact grp_recI h
theorem pend_done (v : Int) (xs : List PutS) : pendL v (recsI v xs ++ [recK 5 v]) = [] := by
  unfold pendL
  rw [if_pos (by unfold dn; rw [List.any_append]; simp [recK])]
def RcOk (r : Rec) : Prop := recGood r = true ∧ (0 ≤ r.ver ∧ r.ver ≤ 18446744073709551615) ∧ SecOk r.data
theorem recI_ok {v : Int} (hv : 0 ≤ v ∧ v ≤ 18446744073709551615) {x : PutS} (h : InR x) (hd : SecOk x.cel.data) : RcOk (recI v x) := by
  obtain ⟨⟨a1, a2⟩, a3, a4⟩ := h
  refine ⟨?_, hv, hd⟩
  show (decide (1 ≤ (3 : Int)) && decide ((3 : Int) ≤ 6) && decide (0 ≤ x.plc.dk * 1024 + x.plc.at_) && decide (x.plc.dk * 1024 + x.plc.at_ ≤ 2147483647)) = true
  rw [decide_eq_true (show 0 ≤ x.plc.dk * 1024 + x.plc.at_ by omega), decide_eq_true (show x.plc.dk * 1024 + x.plc.at_ ≤ 2147483647 by omega)]
  rfl
theorem sec0_okI : SecOk (sec []) := sec_ok (by simp)
theorem recs_scan {rs : List Rec} (h : ∀ r ∈ rs, RcOk r) : scanB (rs.flatMap packB) = rs := by
  have hl : (rs.flatMap packB).length = 37 * rs.length := by
    clear h
    induction rs with
    | nil => rfl
    | cons y ys ih => rw [List.flatMap_cons, List.length_append, len_pk, ih, List.length_cons]; omega
  have := scan_packs rs [] ((rs.flatMap packB).length + 1) h (by decide) (by omega)
  rw [List.append_nil] at this
  exact this
theorem recs_by {rs : List Rec} (h : ∀ r ∈ rs, RcOk r) : By (rs.flatMap packB) := fun x hx => by
  obtain ⟨r, hr, hx⟩ := List.mem_flatMap.1 hx
  exact by_packB (h r hr).2.2 x hx
theorem recs_len (rs : List Rec) : (rs.flatMap packB).length = 37 * rs.length := by
  induction rs with
  | nil => rfl
  | cons y ys ih => rw [List.flatMap_cons, List.length_append, len_pk, ih, List.length_cons]; omega
theorem recsI_ok {v : Int} (hv : 0 ≤ v ∧ v ≤ 18446744073709551615) {xs : List PutS} (h : ∀ x ∈ xs, InR x ∧ SecOk x.cel.data) : ∀ r ∈ recsI v xs, RcOk r := fun r hr => by
  unfold recsI at hr
  rcases List.mem_append.1 hr with hr | hr
  · obtain ⟨x, hx, rfl⟩ := List.mem_map.1 hr
    exact recI_ok hv (h x hx).1 (h x hx).2
  · rw [List.mem_singleton.1 hr]
    exact ⟨rfl, hv, sec0_okI⟩
theorem lba_ok {r : Rec} (h : RcOk r) : 0 ≤ r.lba ∧ r.lba ≤ 2147483647 := by
  have := h.1
  unfold recGood at this
  simp only [Bool.and_eq_true, decide_eq_true_eq] at this
  exact ⟨this.1.2, this.2⟩
theorem recsI_ver {v : Int} {xs : List PutS} : ∀ x ∈ recsI v xs, x.ver = v := fun r hr => by
  unfold recsI at hr
  rcases List.mem_append.1 hr with hr | hr
  · obtain ⟨x, hx, rfl⟩ := List.mem_map.1 hr
    rfl
  · rw [List.mem_singleton.1 hr]; rfl
theorem bsl_h (p : Option Addr) (l c : Nat) (w : World) : (Instr.buildSlice 158 1 #[(0, .slice p l c)]).run Tryz.prog w = .ok (.slice (some ⟨w.heap.size, 0, none⟩) 1 1) (w.alloc (.cells #[.slice p l c] 113)) :=
  run_buildSlice w 158 113 1 _ #[.slice p l c] ((Tryz.prog.info? 113).get (by kernel_rfl)) (((Tryz.prog.info? 113).get (by kernel_rfl)).zero.get (by kernel_rfl)) (by kernel_rfl) (by kernel_rfl) (by kernel_rfl) (by decide +kernel) (by decide +kernel) (by kernel_rfl)
theorem bsl_ram (r : Nat) (w : World) : (Instr.buildSlice 109 1 #[(0, .pointer (some ⟨r, 0, none⟩))]).run Tryz.prog w = .ok (.slice (some ⟨w.heap.size, 0, none⟩) 1 1) (w.alloc (.cells #[.pointer (some ⟨r, 0, none⟩)] 104)) :=
  run_buildSlice w 109 104 1 _ #[.pointer (some ⟨r, 0, none⟩)] ((Tryz.prog.info? 104).get (by kernel_rfl)) (((Tryz.prog.info? 104).get (by kernel_rfl)).zero.get (by kernel_rfl)) (by kernel_rfl) (by kernel_rfl) (by kernel_rfl) (by decide +kernel) (by decide +kernel) (by kernel_rfl)
theorem own_one {α : Type} {L : Lay α} {w : World} {e : TypeId} {b B : Nat} {cs : Array Value} {x : α} (hb : B ≤ b) (h : Has w b (.cells cs e (0, 0))) (hcs : cs.toList = L.row x) : OwnL L w B e (some ⟨b, 0, none⟩) 1 1 [x] :=
  OwnL.mk (xs := [x]) hb h (by simp [maxLen]) (by rw [hcs]; simp [Lay.rows])
/-- two memories' parts and others': apart -/
theorem apartR {α : Type} {L : Lay α} {base m r : Nat} {size : Int} {p : Option Addr} {l c : Nat} {bs : List Int} {pw : Pow} (hra : RaAt w base m r size p l c bs) (hm : MaAt w m pw) {B : Nat} {e : TypeId} {q : Option Addr} {n cap : Nat} {xs : List α} (o : OwnL L w B e q n cap xs) (h1 : e ≠ 209) (h2 : e ≠ 214) (h3 : e ≠ 5) : ∀ b o', q = some ⟨b, o', none⟩ → b ≠ m ∧ b ≠ r ∧ p ≠ some ⟨b, 0, none⟩ := fun b o' hb => by
  obtain ⟨_, cur, hh⟩ := own_has o b o' hb
  have no : ∀ {k : Nat} {cs' : Array Value} {t' : TypeId}, Has w k (.cells cs' t' (0, 0)) → e ≠ t' → b ≠ k := fun hk ht => hh.ne hk (by simp only [ne_eq, Obj.cells.injEq]; intro e; exact ht e.2.1)
  refine ⟨no hm h1, no hra.cells h2, fun hp => ?_⟩
  obtain ⟨_, cur', hh'⟩ := own_has hra.row b 0 hp
  exact no hh' h3 rfl
theorem zeroP : (Instr.build 88 #[]).run Tryz.prog w = .ok (.agg (putSV ⟨⟨0, 0⟩, ⟨sec [], 0⟩⟩)) w := run_build _ _ _ _ (by kernel_rfl)
theorem aw10 (hK : ∀ w', Keep (fun _ => False) w w' → R (.bool true) w') : CallV Tryz.prog 55 #[] w R := by
  apply C_ravelinlaw10_awake
  unfold F_ravelinlaw10_awake
  refine ma_New fun m w1 hm hma k1 z1 => OpN_some.2 ?_
  refine ra_New (base := w.heap.size) (by omega) (by omega) fun w2 hr2 k2 z2 => T2_mk.2 (OpN_some.2 (OpI_int.2 ⟨by trivial, by trivial, (Cb_false (p := _)).2 ?_⟩))
  have hma2 := k2.has hma (by simp)
  refine ⟨_, _, bsl_ram _ _, OpS_slice.2 ?_⟩
  have k3 := Keep.new (fun _ => False) w2 (.cells #[.pointer (some ⟨w1.heap.size, 0, none⟩)] 104)
  have hb3 := Has.new w2 (.cells #[.pointer (some ⟨w1.heap.size, 0, none⟩)] 104)
  generalize w2.alloc (.cells #[.pointer (some ⟨w1.heap.size, 0, none⟩)] 104) = w3 at *
  refine DoQ_of (fun _ => zeroP) (OpA_agg.2 ⟨rfl, ?_⟩)
  refine ⟨_, _, bsl_pu1 _ _, OpS_slice.2 ?_⟩
  have k4 := Keep.new (fun _ => False) w3 (.cells (putSV ⟨⟨0, 0⟩, ⟨sec [], 0⟩⟩) 88)
  have hb4 := Has.new w3 (.cells (putSV ⟨⟨0, 0⟩, ⟨sec [], 0⟩⟩) 88)
  generalize w3.alloc (.cells (putSV ⟨⟨0, 0⟩, ⟨sec [], 0⟩⟩) 88) = w4 at *
  have k34 := k3.trans k4
  have z1' := k1.size
  have z2' := k2.size
  have z3' := k3.size
  have o3 : OwnL dLay w4 w.heap.size 104 (some ⟨w2.heap.size, 0, none⟩) 1 1 [w1.heap.size] := own_one (by omega) (k4.has hb3 (by simp)) rfl
  have o4 : OwnL puLay w4 w.heap.size 88 (some ⟨w3.heap.size, 0, none⟩) 1 1 [⟨⟨0, 0⟩, ⟨sec [], 0⟩⟩] := own_one (by omega) hb4 rfl
  have hr4 : RaAt w4 w.heap.size m w1.heap.size 500 none 0 0 [] := ⟨k34.has hr2.cells (by simp), hr2.row.keep k34 (by simp)⟩
  have hma4 : MaAt w4 m ⟨true, 0, 0⟩ := k34.has hma2 (by simp)
  have hin : ∀ x ∈ [(⟨⟨0, 0⟩, ⟨sec [], 0⟩⟩ : PutS)], InR x ∧ SecOk x.cel.data := fun x hx => by
    rw [List.mem_singleton.1 hx]
    exact ⟨⟨⟨by decide, by decide⟩, by decide, by decide⟩, sec0_okI⟩
  have z4 := ((k1.trans k2).trans k34).size
  refine i_Begin1 (v := 7) hr4 hma4 ⟨rfl, rfl⟩ (by omega) (by omega) (by show ((0 : Nat) : Int) + 37 * (((1 : Nat) : Int) + 1) ≤ 500; omega) z4 o3.sl (apartR hr4 hma4 o3 (by decide) (by decide) (by decide)) o4.sl (apartR hr4 hma4 o4 (by decide) (by decide) (by decide)) (fun x hx => (hin x hx).1) fun p5 l5 c5 w5 hr5 hma5 k5 => OpI_int.2 ((Cb_false (p := _)).2 ?_)
  rw [List.nil_append] at hr5
  have hrs := recsI_ok (v := 7) ⟨by omega, by omega⟩ hin
  have hr5 : RaAt w5 w.heap.size m w1.heap.size 500 p5 l5 c5 ((recsI 7 [⟨⟨0, 0⟩, ⟨sec [], 0⟩⟩]).flatMap packB) := hr5
  have hl5 : l5 = 74 := by rw [hr5.row.length, recs_len]; rfl
  have k05 : Keep (fun _ => False) w w5 := ((k1.trans k2).trans k34).trans' k5.keep fun i hi e => by
    rcases e with e | e | e
    · omega
    · omega
    · cases e
  refine ra_Records hr5 (by omega) (recs_by hrs) fun p6 c6 w6 o6 k6 => OpS_slice.2 ?_
  rw [recs_scan hrs]
  refine (Cb_true (q := _)).2 ?_
  have hr6 : RaAt w6 w.heap.size m w1.heap.size 500 p5 l5 c5 ((recsI 7 [⟨⟨0, 0⟩, ⟨sec [], 0⟩⟩]).flatMap packB) := ⟨k6.has hr5.cells (by simp), hr5.row.keep k6 (by simp)⟩
  refine ra_Records hr6 (by omega) (recs_by hrs) fun p7 c7 w7 o7 k7 => OpS_slice.2 ?_
  rw [recs_scan hrs] at o7 ⊢
  refine ⟨_, _, bsl_h _ _ _ _, OpS_slice.2 ?_⟩
  have k8 := Keep.new (fun _ => False) w7 (.cells #[.slice p7 (recsI 7 [⟨⟨0, 0⟩, ⟨sec [], 0⟩⟩]).length c7] 113)
  have hb8 := Has.new w7 (.cells #[.slice p7 (recsI 7 [⟨⟨0, 0⟩, ⟨sec [], 0⟩⟩]).length c7] 113)
  generalize w7.alloc (.cells #[.slice p7 (recsI 7 [⟨⟨0, 0⟩, ⟨sec [], 0⟩⟩]).length c7] 113) = w8 at *
  have o8 : OwnL hLay w8 0 113 (some ⟨w7.heap.size, 0, none⟩) 1 1 [(p7, (recsI 7 [⟨⟨0, 0⟩, ⟨sec [], 0⟩⟩]).length, c7)] := own_one (Nat.zero_le _) hb8 rfl
  refine i_Pending1 (v := 7) o8.sl (o7.keep k8 (by simp)).sl o7.cap.1 (by show 2 ≤ 100000; omega) (fun x hx => lba_ok (hrs x hx)) (fun x hx _ => recsI_ver x hx) fun p9 c9 w9 o9 k9 => OpS_slice.2 (Ret_nil.2 ?_)
  rw [pend_recsI fun x hx => (hin x hx).1]
  exact hK w9 ((((k05.trans k6).trans k7).trans k8).trans k9)
end calls
end Go.Proofs
