/-
  IntentRedoes, the walk.
-/
import Derived.Test.YtjikegaipldnhaaRedoM
import Derived.Test.YtjikegaipldnhaaFRedoes
namespace Go.Proofs
open Go Go.Ev Go.RowKit
set_option linter.unusedSimpArgs false
set_option linter.unusedVariables false
set_option maxRecDepth 100000

theorem EqB_plcI {x y : Operand} {p q : Plc} (hp : (0 ≤ p.dk ∧ p.dk ≤ 1000000) ∧ (0 ≤ p.at_ ∧ p.at_ ≤ 1000000)) (hq : (0 ≤ q.dk ∧ q.dk ≤ 1000000) ∧ (0 ≤ q.at_ ∧ q.at_ ≤ 1000000)) {C : World → Prop} {K : Bool → Prop} (hK : ∀ r : Bool, (r = true ↔ p = q) → K r) :
    EqB Try.prog .eql 81 x y (.agg (plcV p)) (.agg (plcV q)) C K := by
  have ok : ∀ n : Int, 0 ≤ n ∧ n ≤ 1000000 → CK.ok (.int .i64) (.int .i64 n) := fun n hn => ⟨_, rfl, by show (-9223372036854775808 : Int) ≤ n; omega, by show n ≤ (9223372036854775807 : Int); omega⟩
  have hf : ∀ r : Plc, (0 ≤ r.dk ∧ r.dk ≤ 1000000) ∧ (0 ≤ r.at_ ∧ r.at_ ≤ 1000000) → Fits [.int .i64, .int .i64] (plcV r).toList := fun r hr => ⟨ok _ hr.1, ok _ hr.2, trivial⟩
  refine EqB_flat (ks := [.int .i64, .int .i64]) (by kernel_rfl) (by kernel_rfl) (by kernel_rfl) (by kernel_rfl) (by kernel_rfl) (hf p hp) (hf q hq) fun r hr => hK r (hr.trans ⟨fun e => ?_, fun e => by rw [e]⟩)
  have e : (plcV p).toList = (plcV q).toList := by rw [e]
  have e : [Value.int .i64 p.dk, .int .i64 p.at_] = [Value.int .i64 q.dk, .int .i64 q.at_] := e
  simp only [List.cons.injEq, Value.int.injEq, true_and, and_true] at e
  cases p; cases q; simp_all
/-- what a law of the journal holds on to -/
structure RdS (w0 w : World) (g : Geo) (m r b2 : Nat) (bks : List (Nat × Nat)) (dp : Option Addr) (dc : Nat) (s : SS) (size : Int) (p : Option Addr) (l c : Nat) (bs : List Int) : Prop where
  set : SetAt w ⟨m, g, bks⟩ s
  disks : OwnL dLay w w0.heap.size 88 dp g.d.toNat dc (bks.map Prod.fst)
  st : Has w b2 (.cells (setV g dp g.d.toNat dc) 77 (0, 0))
  ra : RaAt w w0.heap.size m r size p l c bs
  low : ∀ b, SFoot ⟨m, g, bks⟩ b → w0.heap.size ≤ b
  lr : w0.heap.size ≤ r
  k : Keep (fun _ => False) w0 w
section rds
variable {w0 w w' : World} {g : Geo} {m r b2 : Nat} {bks : List (Nat × Nat)} {dp : Option Addr} {dc : Nat} {s : SS} {size : Int} {p : Option Addr} {l c : Nat} {bs : List Int}
theorem RdS.keep0 (h : RdS w0 w g m r b2 bks dp dc s size p l c bs) (k : Keep (fun _ => False) w w') : RdS w0 w' g m r b2 bks dp dc s size p l c bs :=
  ⟨h.set.keep0 k, h.disks.keep k (by simp), k.has h.st (by simp), ⟨k.has h.ra.cells (by simp), h.ra.row.keep k (by simp)⟩, h.low, h.lr, h.k.trans k⟩
theorem RdS.notR (h : RdS w0 w g m r b2 bks dp dc s size p l c bs) {b : Nat} {cs : Array Value} {t : TypeId} (hb : Has w b (.cells cs t (0, 0))) (h1 : t ≠ 108) (h2 : t ≠ 110) (h3 : t ≠ 5) : ¬ (b = m ∨ b = r ∨ p = some ⟨b, 0, none⟩) := by
  have no : ∀ {k : Nat} {cs' : Array Value} {t' : TypeId}, Has w k (.cells cs' t' (0, 0)) → t ≠ t' → b ≠ k := fun hk ht => hb.ne hk (by simp only [ne_eq, Obj.cells.injEq]; intro e; exact ht e.2.1)
  rintro (e | e | e)
  · exact no h.set.main h1 e
  · exact no h.ra.cells h2 e
  · obtain ⟨_, cur', hh'⟩ := own_has h.ra.row b 0 e
    exact no hh' h3 rfl
theorem RdS.ownR (h : RdS w0 w g m r b2 bks dp dc s size p l c bs) {p' : Option Addr} (k : RK w w' m r p p') {α : Type} {L : Lay α} {e : TypeId} {q : Option Addr} {n cap : Nat} {xs : List α} {B : Nat} (o : OwnL L w B e q n cap xs) (h1 : e ≠ 108) (h2 : e ≠ 110) (h3 : e ≠ 5) : OwnL L w' B e q n cap xs :=
  o.keep k.keep fun b hb hs => by
    obtain ⟨_, cur, hh⟩ := own_has o b 0 hb
    exact h.notR hh h1 h2 h3 hs
theorem RdS.ownA (h : RdS w0 w g m r b2 bks dp dc s size p l c bs) (k : Keep (SFoot ⟨m, g, bks⟩) w w') {α : Type} {L : Lay α} {e : TypeId} {q : Option Addr} {n cap : Nat} {xs : List α} {B : Nat} (o : OwnL L w B e q n cap xs) (h1 : e ≠ 108) (h2 : e ≠ 142) (h3 : e ≠ 144) : OwnL L w' B e q n cap xs :=
  o.keep k fun b hb hs => by
    obtain ⟨_, cur, hh⟩ := own_has o b 0 hb
    exact h.set.typ hh h1 h2 h3 hs
theorem RdS.ram (h : RdS w0 w g m r b2 bks dp dc s size p l c bs) {p' : Option Addr} {l' c' : Nat} {bs' : List Int} {pw : Pow} (hra : RaAt w' w0.heap.size m r size p' l' c' bs') (hm : MaAt w' m pw) (k : RK w w' m r p p') : RdS w0 w' g m r b2 bks dp dc ⟨s.ds, pw⟩ size p' l' c' bs' := by
  refine ⟨h.set.pow k.keep (fun i hi hs => ?_) hm, h.ownR k h.disks (by decide) (by decide) (by decide), k.keep.has h.st (h.notR h.st (by decide) (by decide) (by decide)), hra, h.low, h.lr, h.k.trans' k.keep fun i hi e => ?_⟩
  · rcases hs with e | e | e
    · exact e
    · rw [e] at hi; exact absurd hi (h.set.typ h.ra.cells (by decide) (by decide) (by decide))
    · obtain ⟨_, cur', hh'⟩ := own_has h.ra.row i 0 e
      exact absurd hi (h.set.typ hh' (by decide) (by decide) (by decide))
  · have h1 := h.low m (Or.inl rfl)
    have h2 := h.lr
    rcases e with e | e | e
    · omega
    · omega
    · have := own_lowI h.ra.row i e; omega
theorem RdS.app (h : RdS w0 w g m r b2 bks dp dc s size p l c bs) {s' : SS} (hS : SetAt w' ⟨m, g, bks⟩ s') (k : Keep (SFoot ⟨m, g, bks⟩) w w') : RdS w0 w' g m r b2 bks dp dc s' size p l c bs :=
  ⟨hS, h.ownA k h.disks (by decide) (by decide) (by decide), k.has h.st (h.set.typ h.st (by decide) (by decide) (by decide)), ⟨k.has h.ra.cells (h.set.typ h.ra.cells (by decide) (by decide) (by decide)), h.ownA k h.ra.row (by decide) (by decide) (by decide)⟩, h.low, h.lr, h.k.trans' k fun i hi e => by have := h.low i e; omega⟩
end rds
def InG (g : Geo) (x : PutS) : Prop := (0 ≤ x.plc.dk ∧ x.plc.dk < g.d) ∧ (0 ≤ x.plc.at_ ∧ x.plc.at_ < 3)
theorem pu_plc (x : PutS) : ∀ j, j < 2 → (puLay.row x)[0 + j]? = (plcV x.plc)[j]? := fun j hj => by
  rcases (show j = 0 ∨ j = 1 by omega) with rfl | rfl <;> rfl
theorem pu_sec (x : PutS) : ∀ j, j < 16 → (puLay.row x)[2 + j]? = (secV x.cel.data)[j]? := fun j hj => by
  have e : (puLay.row x) = plcL x.plc ++ ((secV x.cel.data).toList ++ [.int .u32 x.cel.sum]) := rfl
  rw [e, List.getElem?_append_right (by show 2 ≤ 2 + j; omega)]
  show ((secV x.cel.data).toList ++ [.int .u32 x.cel.sum])[2 + j - 2]? = _
  rw [show 2 + j - 2 = j by omega, List.getElem?_append_left (by show j < 16; exact hj)]
  simp
def g3 (a : Int) : Geo := ⟨a % 3 + 4, 1, 3⟩
theorem g3_ok (a : Int) : GeoOk (g3 a) := by
  have h1 := Int.emod_nonneg a (show (3 : Int) ≠ 0 by decide)
  have h2 := Int.emod_lt_of_pos a (show (0 : Int) < 3 by decide)
  exact ⟨⟨by show 4 ≤ a % 3 + 4; omega, by show a % 3 + 4 ≤ 32; omega⟩, ⟨by show (1 : Int) ≤ 1; omega, by show (1 : Int) ≤ 8; omega⟩, ⟨by show (1 : Int) ≤ 3; omega, by show (3 : Int) ≤ 64; omega⟩⟩
theorem zc_setI : (zc Try.prog 77).size = 4 := by kernel_rfl
theorem zc_celI : (zc Try.prog 83).size = 17 := by kernel_rfl
theorem zc_secI : (zc Try.prog 40).size = 16 := by kernel_rfl
theorem bsl_p0 (w : World) : (Instr.buildSlice 49 0 #[]).run Try.prog w = .ok (.slice (some ⟨w.heap.size, 0, none⟩) 0 0) (w.alloc (.cells #[] 85)) := by kernel_rfl
theorem redoes_walkR {a ep : Int} {pp : Option Addr} {pl pc : Nat} {ps : List PutS} {w : World} {R : Value → World → Prop} (ha : 0 ≤ a ∧ a ≤ 255) (hps : SlL puLay w pp pl ps) (hdat : ∀ x ∈ ps, SecOk x.cel.data) (hep : 0 ≤ ep) (hK : ∀ w', Keep (fun _ => False) w w' → R (.bool true) w') :
    CallV Try.prog 7 #[.int .u8 a, .slice pp pl pc, .int .u32 ep] w R := by
  apply C_ravelinlaw10_IntentRedoes
  unfold F_ravelinlaw10_IntentRedoes
  have h1 := Int.emod_nonneg a (show (3 : Int) ≠ 0 by decide)
  have h2 := Int.emod_lt_of_pos a (show (0 : Int) < 3 by decide)
  refine ⟨by decide, ?_⟩
  rw [Int.tmod_eq_emod_of_nonneg ha.1, wrapI (x := a % 3) (by omega) (by omega), wrapI (x := a % 3 + 4) (by omega) (by omega)]
  refine DoQ_of (v := .agg (geoV (g3 a))) (fun _ => run_build _ _ _ _ (by kernel_rfl)) (OpA_agg.2 ⟨rfl, ?_⟩)
  have hg := g3_ok a
  have hgc : (g3 a).c = 1 := rfl
  have hgs : (g3 a).s = 3 := rfl
  generalize g3 a = g at *
  have hdd := hg.d
  have hsz : g.c * g.s = 3 := by rw [hgc, hgs]; rfl
  refine copy_of (by kernel_rfl) rfl (one_geoV _) fun w1 hb1 k1 z1 => ?_
  refine ma_New fun m w2 hm hma k2 z2 => OpN_some.2 ?_
  refine LdA_all (k2.has hb1 (by simp)) rfl ?_
  refine st_New hg hma fun dp dc bks w3 hS3 o3 hfr k3 => T2_mk.2 (OpA_agg.2 ⟨rfl, OpI_int.2 ?_⟩)
  refine copy_of zc_setI rfl (one_setV _ _ _ _) fun w4 hb4 k4 z4 => ?_
  refine ra_New (base := w.heap.size) (by omega) (by omega) fun w5 hr5 k5 z5 => T2_mk.2 (OpN_some.2 (OpI_int.2 ?_))
  refine aw10 fun w6 k6 => OpB_bool.2 ⟨by trivial, by trivial, by trivial, by trivial, (Cb_false (p := _)).2 ?_⟩
  have k02 := k1.trans k2
  have k36 := (k4.trans k5).trans k6
  have hkey0 : ∀ i : Nat, ((newS g ⟨true, 0, 0⟩).ds.getD i dsk0).key ≤ 0 := fun i => by rw [newS_key]; omega
  have hok0 := newS_ok hg ⟨true, 0, 0⟩
  have hal0 := newS_dead g ⟨true, 0, 0⟩
  have z02 := k02.size
  have z03 := (k02.trans k3).size
  have z04 := ((k02.trans k3).trans k4).size
  have hrs6 : RdS w w6 g m w4.heap.size w3.heap.size bks dp dc (newS g ⟨true, 0, 0⟩) 60000 none 0 0 [] := ⟨hS3.keep0 k36, (o3.rebase z02).keep k36 (by simp), (k5.trans k6).has hb4 (by simp), ⟨k6.has hr5.cells (by simp), hr5.row.keep k6 (by simp)⟩, fun b hb => by
    rcases hb with e | hb | hb
    · have e : b = m := e
      have := k1.size
      omega
    · obtain ⟨br, hbr, rfl⟩ := List.mem_map.1 hb
      have := (hfr br hbr).1; omega
    · obtain ⟨br, hbr, rfl⟩ := List.mem_map.1 hb
      have := (hfr br hbr).2; omega, z04, (k02.trans k3).trans k36⟩
  have hgeo6 := ((k2.trans k3).trans k36).has hb1 (by simp)
  generalize hs0 : newS g ⟨true, 0, 0⟩ = s0 at *
  have hpw0 : s0.pw = ⟨true, 0, 0⟩ := by rw [← hs0]; rfl
  generalize w3.heap.size = b2 at *
  generalize w4.heap.size = r at *
  clear hr5 hb4 hS3 o3 hma
  refine ⟨_, _, bsl_p0 _, OpS_slice.2 ?_⟩
  have k7 := Keep.new (fun _ => False) w6 (.cells #[] 85)
  have hb7 := Has.new w6 (.cells #[] 85)
  have z06 := hrs6.k.size
  generalize w6.alloc (.cells #[] 85) = w7 at *
  have o7 : OwnL puLay w7 w.heap.size 85 (some ⟨w6.heap.size, 0, none⟩) 0 0 [] := OwnL.mk (xs := []) z06 hb7 (by simp [maxLen]) rfl
  -- the puts that have a place
  refine LoopC_of (σ := (Option Addr × Nat × Nat) × Int × Unit) (fun st w' => ∃ (i : Nat) (xs : List PutS), st.2.1 = (i : Int) ∧ i ≤ 200 ∧ xs.length ≤ i ∧ (∀ x ∈ xs, InG g x ∧ SecOk x.cel.data) ∧ OwnL puLay w' w.heap.size 85 st.1.1 st.1.2.1 st.1.2.2 xs ∧ RdS w w' g m r b2 bks dp dc s0 60000 none 0 0 [] ∧ Has w' w.heap.size (.cells (geoV g) 74 (0, 0))) (fun st _ => (200 - st.2.1).toNat)
    ⟨0, [], rfl, by omega, by simp, by simp, o7, hrs6.keep0 k7, k7.has hgeo6 (by simp)⟩ ?_
  rintro _ ⟨⟨q, ql, qc⟩, i, u⟩ w8 ⟨i', xs, hi, hil, hxl, hxs, o8, hrs8, hgeo8⟩
  simp only at hi o8 ⊢
  subst hi
  refine ⟨by trivial, by trivial, ?_⟩
  refine Cb_of (fun hc => ?_) (fun hc => ?_)
  · have hc : i' < pl ∧ i' < 200 := by
      have hcc : cond (decide ((i' : Int) < (pl : Int))) (decide ((i' : Int) < 200)) false = true := hc
      by_cases h : (i' : Int) < (pl : Int)
      · rw [decide_eq_true h] at hcc
        have : (i' : Int) < 200 := by simpa using hcc
        omega
      · rw [decide_eq_false h] at hcc
        cases hcc
    have ek : IntKind.wrap .i64 ((i' : Int) + 1) = ((i' + 1 : Nat) : Int) := by rw [wrapI (by omega) (by omega)]; omega
    have hless : (200 - IntKind.wrap .i64 ((i' : Int) + 1)).toNat < (200 - (i' : Int)).toNat := by rw [ek]; omega
    have hlen := hps.1
    obtain ⟨x, hx⟩ : ∃ x, ps[i']? = some x := ⟨_, List.getElem?_eq_getElem (by omega)⟩
    have hxd := hdat x (List.mem_of_getElem? hx)
    refine (hps.keepB hrs8.k (by simp)).ldA (i := (i' : Int)) (n := 19) (x := x) rfl (by omega) (by rw [Int.toNat_natCast]; exact hx) ?_
    rw [pu_row]
    refine copy_of zc_pu rfl (one_putSL x) fun w9 hb9 k9 z9 => ?_
    have hrs9 := hrs8.keep0 k9
    have o9 := o8.keep k9 (by simp)
    have hgeo9 := k9.has hgeo8 (by simp)
    have skip : ∃ m_1, m_1 < (200 - (i' : Int)).toNat ∧ (∃ (i : Nat) (xs : List PutS), IntKind.wrap .i64 ((i' : Int) + 1) = (i : Int) ∧ i ≤ 200 ∧ xs.length ≤ i ∧ (∀ x ∈ xs, InG g x ∧ SecOk x.cel.data) ∧ OwnL puLay w9 w.heap.size 85 q ql qc xs ∧ RdS w w9 g m r b2 bks dp dc s0 60000 none 0 0 [] ∧ Has w9 w.heap.size (.cells (geoV g) 74 (0, 0))) ∧ (200 - IntKind.wrap .i64 ((i' : Int) + 1)).toNat = m_1 := ⟨_, hless, ⟨i' + 1, xs, ek, by omega, by omega, hxs, o9, hrs9, hgeo9⟩, rfl⟩
    refine LdV_has (v := .int .i64 x.plc.dk) hb9 rfl (OpI_int.2 ?_)
    refine Cb_of (fun c1 => ?_) (fun _ => skip)
    refine LdV_has (v := .int .i64 x.plc.dk) hb9 rfl (OpI_int.2 ?_)
    refine LdV_has (v := .int .i64 g.d) hgeo9 rfl (OpI_int.2 ?_)
    refine Cb_of (fun c2 => ?_) (fun _ => skip)
    refine LdV_has (v := .int .i64 x.plc.at_) hb9 rfl (OpI_int.2 ?_)
    refine Cb_of (fun c3 => ?_) (fun _ => skip)
    refine LdV_has (v := .int .i64 x.plc.at_) hb9 rfl (OpI_int.2 ?_)
    refine Cb_of (fun c4 => ?_) (fun _ => skip)
    have hinx : InG g x := ⟨⟨by simpa using c1, by simpa using c2⟩, by simpa using c3, by simpa using c4⟩
    refine LdA_all hb9 rfl ?_
    refine ⟨_, _, bsl_pu1 _ w9, OpS_slice.2 ?_⟩
    have k10 := Keep.new (fun _ => False) w9 (.cells (putSV x) 85)
    have hb10 := Has.new w9 (.cells (putSV x) 85)
    generalize w9.alloc (.cells (putSV x) 85) = w10 at *
    have hrs10 := hrs9.keep0 k10
    have o10 := o9.keep k10 (by simp)
    have hql : ql ≤ 200 := by have := o10.length; omega
    obtain ⟨p11, c11, w11, hr11, o11, k11, _⟩ := run_appendF1 puLayT o10 (y := x) hb10 rfl (ty := 49) (by omega) (by simp only [maxLen]; omega) hrs10.k.size (c2 := 1)
    refine ⟨_, _, hr11, OpS_slice.2 ?_⟩
    have noq : ∀ {b : Nat} {cs : Array Value} {t : TypeId}, Has w10 b (.cells cs t (0, 0)) → t ≠ 85 → ¬ q = some ⟨b, 0, none⟩ := fun hb ht => OwnL.neH o10 hb ht
    have hrs11 : RdS w w11 g m r b2 bks dp dc s0 60000 none 0 0 [] := ⟨hrs10.set.keep k11 (fun b hb e => by
      obtain ⟨_, cur, hh⟩ := own_has o10 b 0 e
      exact hrs10.set.typ hh (by decide) (by decide) (by decide) hb), hrs10.disks.keep k11 (fun b hb e => OwnL.ne hrs10.disks o10 (by decide) hb e), k11.has hrs10.st (noq hrs10.st (by decide)), ⟨k11.has hrs10.ra.cells (noq hrs10.ra.cells (by decide)), hrs10.ra.row.keep k11 (fun b hb e => by cases hb)⟩, hrs10.low, hrs10.lr, hrs10.k.trans' k11 fun i hi e => by have := own_lowI o10 i e; omega⟩
    exact ⟨_, hless, ⟨i' + 1, xs ++ [x], ek, by omega, by rw [List.length_append]; show xs.length + 1 ≤ i' + 1; omega, fun y hy => by
      rcases List.mem_append.1 hy with h | h
      · exact hxs y h
      · rw [List.mem_singleton.1 h]; exact ⟨hinx, hxd⟩, o11, hrs11, k11.has (k10.has hgeo9 (by simp)) (noq (k10.has hgeo9 (by simp)) (by decide))⟩, rfl⟩
  · clear hc hgeo8 hgeo6
    have hql := o8.length
    subst hql
    refine ⟨_, _, bsl_ram _ _, OpS_slice.2 ?_⟩
    have k9 := Keep.new (fun _ => False) w8 (.cells #[.pointer (some ⟨r, 0, none⟩)] 27)
    have hb9 := Has.new w8 (.cells #[.pointer (some ⟨r, 0, none⟩)] 27)
    have z08 := hrs8.k.size
    generalize w8.alloc (.cells #[.pointer (some ⟨r, 0, none⟩)] 27) = w9 at *
    have or9 : OwnL dLay w9 w.heap.size 27 (some ⟨w8.heap.size, 0, none⟩) 1 1 [r] := own_one z08 hb9 rfl
    generalize (some (⟨w8.heap.size, 0, none⟩ : Addr)) = rp at *
    intro d
    have kd := k9.trans (Keep.drew (fun _ => False) w9 d)
    have or10 := or9.keep (Keep.drew (fun _ => False) w9 d) (by simp)
    have hrs10 := hrs8.keep0 kd
    have o10 := o8.keep kd (by simp)
    generalize w9.dr d = w10 at *
    refine ⟨fun w' => Has w' b2 (.cells (setV g dp g.d.toNat dc) 77 (0, 0)), hrs10.st, ?_⟩
    have hinR : ∀ x ∈ xs, InR x := fun x hx => by
      obtain ⟨⟨⟨a1, a2⟩, a3, a4⟩, _⟩ := hxs x hx
      exact ⟨⟨a1, by omega⟩, a3, by omega⟩
    have hma10 : MaAt w10 m ⟨true, 0, 0⟩ := by have := hrs10.set.main; rw [hpw0] at this; exact this
    refine i_Begin1 (v := 5) hrs10.ra hma10 ⟨rfl, rfl⟩ (by omega) (by omega) (by show ((0 : Nat) : Int) + 37 * (((xs.length : Nat) : Int) + 1) ≤ 60000; omega) hrs10.k.size or10.sl (apartR hrs10.ra hma10 or10 (by decide) (by decide) (by decide)) o10.sl (apartR hrs10.ra hma10 o10 (by decide) (by decide) (by decide)) hinR fun p11 l11 c11 w11 hr11 hma11 k11 => OpI_int.2 ?_
    have hrs11 := hrs10.ram hr11 hma11 k11
    have or11 := hrs10.ownR k11 or10 (by decide) (by decide) (by decide)
    have o11 := hrs10.ownR k11 o10 (by decide) (by decide) (by decide)
    refine ⟨hrs11.st, (Cb_false (p := _)).2 ?_⟩
    rw [List.nil_append] at hrs11
    have hrs11 : RdS w w11 g m r b2 bks dp dc ⟨s0.ds, stepsN (xs.length + 1) ⟨true, 0, 0⟩⟩ 60000 p11 l11 c11 ((recsI 5 xs).flatMap packB) := hrs11
    have hrok := recsI_ok (v := 5) ⟨by omega, by omega⟩ fun x hx => ⟨hinR x hx, (hxs x hx).2⟩
    have hrl : (recsI 5 xs).length = xs.length + 1 := by unfold recsI; simp
    have hl11 : l11 = 37 * (xs.length + 1) := by rw [hrs11.ra.row.length, recs_len, hrl]
    have hlit1 : Lit0 (stepsN (xs.length + 1) ⟨true, 0, 0⟩) := stepsN_lit ⟨rfl, rfl⟩ _
    have hst1 : (stepsN (xs.length + 1) ⟨true, 0, 0⟩).steps = ((xs.length + 1 : Nat) : Int) := by
      rw [stepsN_steps ⟨rfl, rfl⟩ (by show (0 : Int) ≤ 0; omega) _ (by show (0 : Int) + _ < _; omega)]
      show (0 : Int) + _ = _
      omega
    generalize stepsN (xs.length + 1) ⟨true, 0, 0⟩ = pw1 at *
    have hok1 : SsOk g ⟨s0.ds, pw1⟩ := ⟨hok0.geo, hok0.num, hok0.len, hok0.ok⟩
    have hseal : ∀ s : SS, (∀ j, deadS s j = false) → ∀ y ∈ xs.map sealP, Sealed g s y := fun s hd y hy => by
      obtain ⟨x, hx, rfl⟩ := List.mem_map.1 hy
      obtain ⟨⟨⟨a1, a2⟩, a3, a4⟩, a5⟩ := hxs x hx
      exact ⟨⟨⟨a1, a2⟩, a3, by rw [hsz]; exact a4⟩, a5, rfl, hd _⟩
    obtain ⟨s2, e2, hok2, hlit2, hst2, hal2, hkey2, hv2⟩ := applyS_ok (ep := ep) (xs := xs.map sealP) hok1 hlit1 (by show 0 ≤ pw1.steps; omega) (by show pw1.steps + _ < _; rw [List.length_map]; omega) (hseal _ hal0) (fun i => by have := hkey0 i; show (s0.ds.getD i dsk0).key ≤ ep; omega)
    have hst2 : s2.pw.steps = pw1.steps + (xs.map sealP).length := hst2
    rw [List.length_map] at hst2
    obtain ⟨s3, e3, hok3, hlit3, hst3, hal3, hkey3, hv3⟩ := applyS_ok (ep := ep) (xs := xs.map sealP) hok2 hlit2 (by omega) (by rw [List.length_map]; omega) (hseal _ fun j => by rw [hal2]; exact hal0 j) (fun i => by rw [hkey2]; have := hkey0 i; show (s0.ds.getD i dsk0).key ≤ ep; omega)
    rw [List.length_map] at hst3
    -- redone, twice
    refine LdA_of (cs := setV g dp g.d.toNat dc) rfl (fun w' hw => ⟨_, _, _, hw, Nat.le_refl 4, rfl⟩) ?_
    refine ra_Records hrs11.ra (by omega) (recs_by hrok) fun p12 c12 w12 o12 k12 => OpS_slice.2 ?_
    have hrs12 := hrs11.keep0 k12
    rw [recs_scan hrok] at o12 ⊢
    refine ⟨hrs12.st, ?_⟩
    refine ⟨_, _, bsl_h _ _ _ _, OpS_slice.2 ?_⟩
    have k13 := Keep.new (fun _ => False) w12 (.cells #[.slice p12 (recsI 5 xs).length c12] 41)
    have hb13 := Has.new w12 (.cells #[.slice p12 (recsI 5 xs).length c12] 41)
    generalize w12.alloc (.cells #[.slice p12 (recsI 5 xs).length c12] 41) = w13 at *
    have hrs13 := hrs12.keep0 k13
    have oh13 : OwnL hLay w13 0 41 (some ⟨w12.heap.size, 0, none⟩) 1 1 [(p12, (recsI 5 xs).length, c12)] := own_one (Nat.zero_le _) hb13 rfl
    refine ⟨hrs13.st, ?_⟩
    refine i_Redo1 (v := 5) hrs13.set hrs13.disks oh13.sl (o12.keep k13 (by simp)).sl o12.cap.1 (by omega) (fun x hx => lba_ok (hrok x hx)) (fun x hx _ => recsI_ver x hx) fun w14 hS14 k14 => OpI_int.2 ?_
    rw [pend_recsI hinR, e2] at hS14 ⊢
    have hrs14 := hrs13.app hS14 k14
    refine ⟨hrs14.st, (Cb_false (p := _)).2 ?_⟩
    refine LdA_of (cs := setV g dp g.d.toNat dc) rfl (fun w' hw => ⟨_, _, _, hw, Nat.le_refl 4, rfl⟩) ?_
    refine ra_Records hrs14.ra (by omega) (recs_by hrok) fun p15 c15 w15 o15 k15 => OpS_slice.2 ?_
    have hrs15 := hrs14.keep0 k15
    rw [recs_scan hrok] at o15 ⊢
    refine ⟨hrs15.st, ?_⟩
    refine ⟨_, _, bsl_h _ _ _ _, OpS_slice.2 ?_⟩
    have k16 := Keep.new (fun _ => False) w15 (.cells #[.slice p15 (recsI 5 xs).length c15] 41)
    have hb16 := Has.new w15 (.cells #[.slice p15 (recsI 5 xs).length c15] 41)
    generalize w15.alloc (.cells #[.slice p15 (recsI 5 xs).length c15] 41) = w16 at *
    have hrs16 := hrs15.keep0 k16
    have oh16 : OwnL hLay w16 0 41 (some ⟨w15.heap.size, 0, none⟩) 1 1 [(p15, (recsI 5 xs).length, c15)] := own_one (Nat.zero_le _) hb16 rfl
    refine ⟨hrs16.st, ?_⟩
    refine i_Redo1 (v := 5) hrs16.set hrs16.disks oh16.sl (o15.keep k16 (by simp)).sl o15.cap.1 (by omega) (fun x hx => lba_ok (hrok x hx)) (fun x hx _ => recsI_ver x hx) fun w17 hS17 k17 => OpI_int.2 ?_
    rw [pend_recsI hinR, e3] at hS17 ⊢
    have hrs17 := hrs16.app hS17 k17
    refine ⟨hrs17.st, (Cb_false (p := _)).2 ?_⟩
    have c1113 := k12.trans k13
    have o17 := hrs16.ownA k17 (((hrs13.ownA k14 (o11.keep c1113 (by simp)) (by decide) (by decide) (by decide)).keep k15 (by simp)).keep k16 (by simp)) (by decide) (by decide) (by decide)
    have or17 := hrs16.ownA k17 (((hrs13.ownA k14 (or11.keep c1113 (by simp)) (by decide) (by decide) (by decide)).keep k15 (by simp)).keep k16 (by simp)) (by decide) (by decide) (by decide)
    clear hrs16 hrs15 hrs14 hrs13 hrs12 hrs11 hrs10 hrs8 hrs6 o8 o10 o11 o12 o15 or9 or10 or11 oh13 oh16 hb13 hb16
    -- each is read
    refine LoopC_of (σ := Int × Unit) (fun st w' => ∃ i : Nat, st.1 = (i : Int) ∧ i ≤ xs.length ∧ Keep (fun _ => False) w17 w') (fun st _ => ((xs.length : Int) - st.1).toNat) ⟨0, rfl, by omega, Keep.refl _ _⟩ ?_
    rintro _ ⟨t, u⟩ w18 ⟨t', ht, htl, k18⟩
    simp only at ht ⊢
    subst ht
    have hrs18 := hrs17.keep0 k18
    have o18 := o17.keep k18 (by simp)
    refine Cb_of (fun hc => ?_) (fun hc => ?_)
    · have hc : t' < xs.length := by
        have : (t' : Int) < (xs.length : Int) := by simpa using hc
        omega
      have ek : IntKind.wrap .i64 ((t' : Int) + 1) = ((t' + 1 : Nat) : Int) := by rw [wrapI (by omega) (by omega)]; omega
      obtain ⟨x, hx⟩ : ∃ x, xs[t']? = some x := ⟨_, List.getElem?_eq_getElem (by omega)⟩
      obtain ⟨⟨⟨a1, a2⟩, a3, a4⟩, a5⟩ := hxs x (List.mem_of_getElem? hx)
      have hx' : xs[((t' : Int)).toNat]? = some x := by rw [Int.toNat_natCast]; exact hx
      refine sl_ldAF o18.sl (at_sl o18.sl) (i := (t' : Int)) (t := 2) (k := 16) (n := 19) (cs := secV x.cel.data) rfl (by omega) hx' rfl (by omega) (pu_sec x) ?_
      refine copy_of zc_secI rfl (one_secV _) fun w19 hb19 k19 z19 => ?_
      generalize hbl : w18.heap.size = bl at *
      have k19' := k18.trans k19
      have z17 := k18.size
      -- the last of them
      refine LoopC_of (σ := Int × Unit) (fun st w' => ∃ j : Nat, st.1 = (j : Int) ∧ t' + 1 ≤ j ∧ j ≤ xs.length ∧ Has w' bl (.cells (secV (lastD x.plc ((xs.take j).drop (t' + 1)) x.cel.data)) 40 (0, 0)) ∧ Keep (fun _ => False) w17 w') (fun st _ => ((xs.length : Int) - st.1).toNat)
        ⟨t' + 1, ek, by omega, by omega, by
          rw [List.drop_eq_nil_of_le (by rw [List.length_take]; omega)]
          exact hb19, k19'⟩ ?_
      rintro _ ⟨j, u⟩ w20 ⟨j', hj, hj1, hjl, hb20, k20⟩
      simp only at hj ⊢
      subst hj
      have o20 := o17.keep k20 (by simp)
      have hrs20 := hrs17.keep0 k20
      refine Cb_of (fun hc2 => ?_) (fun hc2 => ?_)
      · have hc2 : j' < xs.length := by
          have : (j' : Int) < (xs.length : Int) := by simpa using hc2
          omega
        have ej : IntKind.wrap .i64 ((j' : Int) + 1) = ((j' + 1 : Nat) : Int) := by rw [wrapI (by omega) (by omega)]; omega
        have hlessj : ((xs.length : Int) - IntKind.wrap .i64 ((j' : Int) + 1)).toNat < ((xs.length : Int) - (j' : Int)).toNat := by rw [ej]; omega
        obtain ⟨y, hy⟩ : ∃ y, xs[j']? = some y := ⟨_, List.getElem?_eq_getElem (by omega)⟩
        obtain ⟨⟨⟨b1, b2'⟩, b3, b4⟩, b5⟩ := hxs y (List.mem_of_getElem? hy)
        have hy' : xs[((j' : Int)).toNat]? = some y := by rw [Int.toNat_natCast]; exact hy
        have hnext : (xs.take (j' + 1)).drop (t' + 1) = (xs.take j').drop (t' + 1) ++ [y] := by
          rw [List.take_add_one, hy, List.drop_append_of_le_length (by rw [List.length_take]; omega)]
          rfl
        refine sl_ldAF o20.sl (at_sl o20.sl) (i := (j' : Int)) (t := 0) (k := 2) (n := 19) (cs := plcV y.plc) rfl (by omega) hy' rfl (by omega) (pu_plc y) ?_
        refine sl_ldAF o20.sl (at_sl o20.sl) (i := (t' : Int)) (t := 0) (k := 2) (n := 19) (cs := plcV x.plc) rfl (by omega) hx' rfl (by omega) (pu_plc x) ?_
        refine EqB_plcI ⟨⟨b1, by omega⟩, b3, by omega⟩ ⟨⟨a1, by omega⟩, a3, by omega⟩ fun g1 hg1 => ?_
        intro d2
        have k21 := k20.trans (Keep.drew (fun _ => False) w20 d2)
        have hb21 := hb20.dr d2
        generalize w20.dr d2 = w21 at *
        have o21 := o17.keep k21 (by simp)
        refine Cb_of (fun eg => ?_) (fun eg => ?_)
        · have eg := hg1.1 eg
          refine sl_ldAF o21.sl (at_sl o21.sl) (i := (j' : Int)) (t := 2) (k := 16) (n := 19) (cs := secV y.cel.data) rfl (by omega) hy' rfl (by omega) (pu_sec y) ?_
          refine StA_all hb21 rfl rfl (one_secV _) ?_
          have ku := Keep.one w21 bl (.cells (secV y.cel.data) 40 (0, 0))
          refine ⟨_, hlessj, ⟨j' + 1, ej, by omega, by omega, ?_, k21.trans' ku fun i hi e => by omega⟩, rfl⟩
          rw [hnext, lastD_append]
          show Has _ bl (.cells (secV (if y.plc = x.plc then y.cel.data else _)) _ _)
          rw [if_pos eg]
          exact hb21.upd_same _
        · refine ⟨_, hlessj, ⟨j' + 1, ej, by omega, by omega, ?_, k21⟩, rfl⟩
          rw [hnext, lastD_append]
          show Has _ bl (.cells (secV (if y.plc = x.plc then y.cel.data else _)) _ _)
          rw [if_neg (fun h => by rw [hg1.2 h] at eg; cases eg)]
          exact hb21
      · have hc2 : j' = xs.length := by
          have : ¬ (j' : Int) < (xs.length : Int) := by simpa using hc2
          omega
        subst hc2
        rw [List.take_of_length_le (Nat.le_refl _)] at hb20
        have hview : viewS s3 x.plc.dk x.plc.at_ = some (lastD x.plc (xs.drop (t' + 1)) x.cel.data) := by
          rw [hv3 _ _ a1 a3]
          exact putV_at hx _
        have hlo : SecOk (lastD x.plc (xs.drop (t' + 1)) x.cel.data) := lastD_ok _ _ a5 fun y hy => (hxs y (List.mem_of_mem_drop hy)).2
        generalize lastD x.plc (xs.drop (t' + 1)) x.cel.data = f at *
        intro d3
        have k21 := k20.trans (Keep.drew (fun _ => False) w20 d3)
        have hb21 := hb20.dr d3
        generalize w20.dr d3 = w21 at *
        have o21 := o17.keep k21 (by simp)
        have hrs21 := hrs17.keep0 k21
        have hS_ : ∀ w', Keep (fun _ => False) w21 w' → Has w' b2 (.cells (setV g dp g.d.toNat dc) 77 (0, 0)) ∧ SlL dLay w' dp g.d.toNat (bks.map Prod.fst) ∧ SlL puLay w' q xs.length xs := fun w' k => ⟨k.has hrs21.st (by simp), (hrs21.disks.keep k (by simp)).sl, (o21.keep k (by simp)).sl⟩
        refine ⟨fun w' => Has w' b2 (.cells (setV g dp g.d.toNat dc) 77 (0, 0)) ∧ SlL dLay w' dp g.d.toNat (bks.map Prod.fst) ∧ SlL puLay w' q xs.length xs, hS_ _ (Keep.refl _ _), ?_⟩
        refine LdV_of (v := .slice dp g.d.toNat dc) (fun w' hw => ⟨_, _, _, hw.1, rfl⟩) (OpS_slice.2 ?_)
        refine sl_ldFC o21.sl (fun w' hw => hw.2.2) (i := (t' : Int)) (t := 0) (n := 19) (x := x) (v := .int .i64 x.plc.dk) rfl (by omega) hx' rfl (OpI_int.2 ?_)
        have hnum : (s3.ds.length : Int) = g.d := hrs21.set.num
        have hdlt : x.plc.dk.toNat < s3.ds.length := by omega
        obtain ⟨bd, rd, D, hbk, hD, hda, hdl⟩ := hrs21.set.get (i := x.plc.dk.toNat) hdlt
        have hDg : s3.ds.getD x.plc.dk.toNat dsk0 = D := by rw [List.getD_eq_getElem?_getD, hD]; rfl
        refine sl_ldFC hrs21.disks.sl (fun w' hw => hw.2.1) (i := x.plc.dk) (t := 0) (n := 1) (x := bd) (v := .pointer (some ⟨bd, 0, none⟩)) rfl a1 (by rw [List.getElem?_map, show bks[x.plc.dk.toNat]? = some (bd, rd) from hbk]; rfl) rfl (OpN_some.2 ?_)
        refine sl_ldFC o21.sl (fun w' hw => hw.2.2) (i := (t' : Int)) (t := 1) (n := 19) (x := x) (v := .int .i64 x.plc.at_) rfl (by omega) hx' rfl (OpI_int.2 ?_)
        have hrd : readD s3.pw D x.plc.at_ = (⟨f, sumS x.plc.at_ f⟩, 0) := by
          have := read_view (s := s3) (i := x.plc.dk) (a := x.plc.at_) hlit3.1 (by rw [hDg, hdl]; show 0 ≤ x.plc.at_ ∧ x.plc.at_ < g.c * g.s; rw [hsz]; exact ⟨a3, a4⟩) hview
          rw [hDg] at this
          exact this
        have fin : ∀ (wa : World) (bb : Nat), Has wa bb (.cells (celV ⟨f, sumS x.plc.at_ f⟩) 83 (0, 0)) → Keep (fun _ => False) w21 wa → Cb ((0 : Int) != 0) (Ret [] (R (.bool false) wa)) (LdA 16 bb 0 (At wa) fun cs12 => LdA 16 bl 0 (At wa) fun cs13 => EqB Try.prog .neq 40 (.tmp 178) (.tmp 179) (.agg cs12 : Value) (.agg cs13 : Value) (At wa) fun g2 => Cb g2 (Ret [] (R (.bool false) wa)) (∃ m_1, m_1 < ((xs.length : Int) - (t' : Int)).toNat ∧ (∃ i : Nat, IntKind.wrap .i64 ((t' : Int) + 1) = (i : Int) ∧ i ≤ xs.length ∧ Keep (fun _ => False) w17 wa) ∧ ((xs.length : Int) - IntKind.wrap .i64 ((t' : Int) + 1)).toNat = m_1)) := by
          intro wa bb hbb ka
          refine (Cb_false (p := _)).2 ?_
          refine LdA_has (cs := secV f) hbb (by show 0 + 16 ≤ 17; decide) (by kernel_rfl) ?_
          refine LdA_all (ka.has hb21 (by simp)) rfl ?_
          refine EqB_sec_ne hlo hlo fun g2 hg2 => ?_
          have hg2 : g2 = false := by
            cases g2 with
            | false => rfl
            | true => exact absurd rfl (hg2.1 rfl)
          rw [hg2]
          refine (Cb_false (p := _)).2 ?_
          exact ⟨_, by rw [ek]; omega, ⟨t' + 1, ek, by omega, k21.trans ka⟩, rfl⟩
        have hma21 : MaAt w21 m s3.pw := hrs21.set.main
        refine ⟨?_, ?_⟩
        · refine d_Read hda hma21 fun w22 k22 => ?_
          rw [hrd]
          refine T2_mk.2 (OpA_agg.2 ⟨rfl, OpI_int.2 ⟨hS_ _ k22, ?_⟩⟩)
          refine alc_fresh fun w23 hb23 k23 z23 => ⟨hS_ _ (k22.trans k23), ?_⟩
          refine StA_all hb23 rfl zc_celI (one_celV _) ?_
          have ku := Keep.one w23 w22.heap.size (.cells (celV ⟨f, sumS x.plc.at_ f⟩) 83 (0, 0))
          have kk : Keep (fun _ => False) w21 (w23.upd w22.heap.size (.cells (celV ⟨f, sumS x.plc.at_ f⟩) 83 (0, 0))) := (k22.trans k23).trans' ku fun i hi e => by have := k22.size; omega
          exact ⟨hS_ _ kk, fin _ _ (hb23.upd_same _) kk⟩
        · refine alc_fresh fun w22 hb22 k22 z22 => ⟨hS_ _ k22, ?_⟩
          refine d_Read (hda.keep k22 (by simp) (by simp)) (k22.has hma21 (by simp)) fun w23 k23 => ?_
          rw [hrd]
          refine T2_mk.2 (OpA_agg.2 ⟨rfl, OpI_int.2 ⟨hS_ _ (k22.trans k23), ?_⟩⟩)
          have hb23 := k23.has hb22 (by simp)
          refine StA_all hb23 rfl zc_celI (one_celV _) ?_
          have ku := Keep.one w23 w21.heap.size (.cells (celV ⟨f, sumS x.plc.at_ f⟩) 83 (0, 0))
          have kk : Keep (fun _ => False) w21 (w23.upd w21.heap.size (.cells (celV ⟨f, sumS x.plc.at_ f⟩) 83 (0, 0))) := (k22.trans k23).trans' ku fun i hi e => by omega
          exact ⟨hS_ _ kk, fin _ _ (hb23.upd_same _) kk⟩
    · clear hc
      have or18 := or17.keep k18 (by simp)
      refine ma_Steps hrs18.set.main (OpI_int.2 ?_)
      intro d4
      have kd4 := Keep.drew (fun _ => False) w18 d4
      have hrs19 := hrs18.keep0 kd4
      have or19 := or18.keep kd4 (by simp)
      generalize w18.dr d4 = w19 at *
      refine ⟨fun w' => Has w' b2 (.cells (setV g dp g.d.toNat dc) 77 (0, 0)), hrs19.st, ?_⟩
      refine i_End1 (v := 5) hrs19.ra hrs19.set.main hlit3 (by omega) (by omega) (by rw [recs_len, hrl]; omega) hrs19.k.size or19.sl fun p20 l20 c20 w20 hr20 hma20 k20 => OpI_int.2 ?_
      have hrs20 := hrs19.ram hr20 hma20 k20
      refine ⟨hrs20.st, (Cb_false (p := _)).2 ?_⟩
      have e5 : (recsI 5 xs).flatMap packB ++ packB (recK 5 5) = (recsI 5 xs ++ [recK 5 5]).flatMap packB := by rw [List.flatMap_append]; simp
      rw [e5] at hrs20
      have hrok2 : ∀ y ∈ recsI 5 xs ++ [recK 5 5], RcOk y := fun y hy => by
        rcases List.mem_append.1 hy with h | h
        · exact hrok y h
        · rw [List.mem_singleton.1 h]; exact ⟨rfl, ⟨by decide, by decide⟩, sec0_okI⟩
      have hv5 : ∀ y ∈ recsI 5 xs ++ [recK 5 5], y.kind = 4 ∨ y.kind = 5 → y.ver = 5 := fun y hy _ => by
        rcases List.mem_append.1 hy with h | h
        · exact recsI_ver y h
        · rw [List.mem_singleton.1 h]; rfl
      have hl20 : l20 ≤ 1000000 := by rw [hrs20.ra.row.length, recs_len, List.length_append, hrl]; show 37 * (xs.length + 1 + 1) ≤ _; omega
      refine LdA_of (cs := setV g dp g.d.toNat dc) rfl (fun w' hw => ⟨_, _, _, hw, Nat.le_refl 4, rfl⟩) ?_
      refine ra_Records hrs20.ra hl20 (recs_by hrok2) fun p21 c21 w21 o21 k21 => OpS_slice.2 ?_
      have hrs21 := hrs20.keep0 k21
      rw [recs_scan hrok2] at o21 ⊢
      refine ⟨hrs21.st, ?_⟩
      refine ⟨_, _, bsl_h _ _ _ _, OpS_slice.2 ?_⟩
      have k22 := Keep.new (fun _ => False) w21 (.cells #[.slice p21 (recsI 5 xs ++ [recK 5 5]).length c21] 41)
      have hb22 := Has.new w21 (.cells #[.slice p21 (recsI 5 xs ++ [recK 5 5]).length c21] 41)
      generalize w21.alloc (.cells #[.slice p21 (recsI 5 xs ++ [recK 5 5]).length c21] 41) = w22 at *
      have hrs22 := hrs21.keep0 k22
      have oh22 : OwnL hLay w22 0 41 (some ⟨w21.heap.size, 0, none⟩) 1 1 [(p21, (recsI 5 xs ++ [recK 5 5]).length, c21)] := own_one (Nat.zero_le _) hb22 rfl
      refine ⟨hrs22.st, ?_⟩
      refine i_Redo1 (v := 5) hrs22.set hrs22.disks oh22.sl (o21.keep k22 (by simp)).sl o21.cap.1 (by rw [List.length_append, hrl]; show xs.length + 1 + 1 ≤ 100000; omega) (fun x hx => lba_ok (hrok2 x hx)) hv5 fun w23 hS23 k23 => OpI_int.2 ?_
      rw [pend_done] at hS23 ⊢
      have eA : applyS g ⟨s3.ds, (stepP s3.pw).2⟩ [] ep = (0, ⟨s3.ds, (stepP s3.pw).2⟩) := by
        unfold applyS
        rw [if_pos (by simp)]
        rfl
      rw [eA] at hS23 ⊢
      have hrs23 := hrs22.app hS23 k23
      refine ⟨hrs23.st, (Cb_false (p := _)).2 ?_⟩
      refine ma_Steps hrs23.set.main (OpI_int.2 (Ret_nil.2 ?_))
      have hsw : (stepP s3.pw).2.steps = s3.pw.steps + 1 := steps_wrap hlit3 (by omega) (by omega)
      have : ((stepP s3.pw).2.steps == IntKind.wrap .i64 (s3.pw.steps + 1)) = true := by
        rw [wrapI (by omega) (by omega), hsw]; simp
      show R (.bool ((stepP s3.pw).2.steps == IntKind.wrap .i64 (s3.pw.steps + 1))) w23
      rw [this]
      exact hK w23 hrs23.k
theorem redoes_walk {a ep : Int} {pp : Option Addr} {pl pc : Nat} {ps : List PutS} {w : World} (ha : 0 ≤ a ∧ a ≤ 255) (hps : SlL puLay w pp pl ps) (hdat : ∀ x ∈ ps, SecOk x.cel.data) (hep : 0 ≤ ep) :
    CallV Try.prog 7 #[.int .u8 a, .slice pp pl pc, .int .u32 ep] w fun v w' => v = .bool true ∧ Below w.heap.size w w' :=
  redoes_walkR ha hps hdat hep fun w' k => ⟨rfl, k.below⟩
end Go.Proofs
