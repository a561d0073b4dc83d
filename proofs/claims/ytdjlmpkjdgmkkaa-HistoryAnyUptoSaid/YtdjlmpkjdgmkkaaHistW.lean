/-
  THE SEARCH: the closure that calls itself (walk), by induction on how many events are left; search; Orderly.
-/
import Derived.Test.YtdjlmpkjdgmkkaaHistA
namespace Go.Proofs
open Go Go.Ev Go.RowKit
set_option linter.unusedSimpArgs false
set_option linter.unusedVariables false
set_option maxRecDepth 100000

def cmpB (evs : List Evt) (s : Stt) : Bool := (List.range evs.length).all fun i => decide ((evs.getD i default).to < 0) || s.1.testBit i
theorem cmpB_iff {evs : List Evt} {s : Stt} : cmpB evs s = true ↔ Cmp evs s := by
  unfold cmpB Cmp
  simp only [List.all_eq_true, List.mem_range, Bool.or_eq_true, decide_eq_true_eq]
  constructor
  · intro h i x hx h0
    have hlt := (List.getElem?_eq_some_iff.1 hx).1
    have := h i hlt
    rw [at_lt hlt] at hx
    cases hx
    rcases this with h1 | h1
    · omega
    · exact h1
  · intro h i hi
    by_cases h0 : (evs.getD i default).to < 0
    · exact Or.inl h0
    · exact Or.inr (h i _ (at_lt hi) (by omega))
theorem alc_new {t : TypeId} {cs : Array Value} {w : World} {K : Nat → World → Prop}
    (hK : ∀ w', Has w' w.heap.size (.cells cs t (0, 0)) → Keep (fun _ => False) w w' → w'.heap.size = w.heap.size + 1 → K w.heap.size w') : Alc t cs w fun b w => K b w := by
  rw [Alc_iff]
  exact hK _ (Has.new _ _) (Keep.new _ _ _) (by simp)
theorem SlL.ldP {α : Type} {L : Lay α} {w : World} {p : Option Addr} {l : Nat} {xs : List α} (h : SlL L w p l xs) {i : Int} {x : α} {n t m : Nat} (hn : L.size = n) (h0 : 0 ≤ i) (hi : xs[i.toNat]? = some x) (ht : t + m ≤ n) {cs : Array Value}
    (hm : cs.size = m) (hcs : ∀ j, j < m → cs[j]? = (L.row x)[t + j]?) {K : Array Value → Prop} (hK : K cs) : IdxS p l i n fun b o => LdA m b (o + t) (At w) K := by
  subst hn
  obtain ⟨b, o, rfl, hc⟩ := h.2 _ x hi
  have hlt := (List.getElem?_eq_some_iff.1 hi).1
  refine ⟨b, o, rfl, h0, by have := h.1; omega, cs, hm, ?_, hK⟩
  rintro w' ⟨d, rfl⟩ j hj
  rw [show (w.dr d).cell? ⟨b, o + i.toNat * L.size + t + j, none⟩ = w.cell? ⟨b, o + i.toNat * L.size + (t + j), none⟩ by rw [Nat.add_assoc (o + i.toNat * L.size)]; rfl, hc (t + j) (by omega), hcs j hj]

section walk
variable (evs : List Evt) (start : Sec) (w0 : World) (evp : Option Addr) (evl evc A q1 q2 q3 q4 q5 q6 m : Nat)
def wkP : Array Value := #[.pointer (some ⟨q1, 0, none⟩), .pointer (some ⟨q2, 0, none⟩), .pointer (some ⟨q3, 0, none⟩), .pointer (some ⟨q4, 0, none⟩), .pointer (some ⟨q5, 0, none⟩), .pointer (some ⟨q6, 0, none⟩)]
/-- what the walk finds in memory -/
structure Hst (w : World) (ks : List Stt) (ep : Option Addr) (el ec : Nat) : Prop where
  h1 : Has w q1 (.cells #[.map (some m)] 98 (0, 0))
  h2 : Has w q2 (.cells #[.int .i64 (A : Int)] 3 (0, 0))
  h3 : Has w q3 (.cells #[.slice ep el ec] 71 (0, 0))
  h4 : Has w q4 (.cells (secV start) 23 (0, 0))
  h5 : Has w q5 (.cells #[.slice evp evl evc] 24 (0, 0))
  h6 : Has w q6 (.cells #[.func (.func 62) #[] (wkP q1 q2 q3 q4 q5 q6)] 99 (0, 0))
  hm : SetAt stK w m ks
  he : OwnL stLay w w0.heap.size 93 ep el ec (ks.filter (cmpB evs))
  hb : Keep (fun k => w0.heap.size ≤ k) w0 w
  bm : w0.heap.size ≤ m
  b3 : w0.heap.size ≤ q3
  nd : ks.Nodup
  rc : ∀ t ∈ ks, Reach evs start t
  ez : ∀ a, ep = some a → 0 < el
/-- what may change -/
def Chg (w : World) (ep : Option Addr) (k : Nat) : Prop := k = m ∨ k = q3 ∨ (w0.heap.size ≤ k ∧ ∃ cur, Has w k (.cells cur 93 (0, 0)) ∧ (cur.size = 2 → ep = some ⟨k, 0, none⟩))
structure Fr (w : World) (ep : Option Addr) (w' : World) (ep' : Option Addr) : Prop where
  keep : Keep (Chg w0 q3 m w ep) w w'
  ne : ∀ k cur, Has w k (.cells cur 93 (0, 0)) → cur.size = 2 → ep' = some ⟨k, 0, none⟩ → ep = some ⟨k, 0, none⟩
variable {evs start w0 evp evl evc A q1 q2 q3 q4 q5 q6 m}
variable {w w1 w2 : World} {ks : List Stt} {ep ep1 ep2 : Option Addr} {el ec : Nat}
theorem Hst.keep (h : Hst evs start w0 evp evl evc A q1 q2 q3 q4 q5 q6 m w ks ep el ec) (hk : Keep (fun _ => False) w w1) : Hst evs start w0 evp evl evc A q1 q2 q3 q4 q5 q6 m w1 ks ep el ec :=
  ⟨hk.has h.h1 (by simp), hk.has h.h2 (by simp), hk.has h.h3 (by simp), hk.has h.h4 (by simp), hk.has h.h5 (by simp), hk.has h.h6 (by simp), h.hm.keep hk (by simp), h.he.keep hk (by simp), h.hb.trans (hk.mono (by simp)), h.bm, h.b3, h.nd, h.rc, h.ez⟩
theorem Hst.ev (h : Hst evs start w0 evp evl evc A q1 q2 q3 q4 q5 q6 m w ks ep el ec) (hev : SlL evLay w0 evp evl evs) : SlL evLay w evp evl evs := hev.keepB h.hb (by intro k hk; omega)
theorem Hst.notm (h : Hst evs start w0 evp evl evc A q1 q2 q3 q4 q5 q6 m w ks ep el ec) {c : Array Value} {t : TypeId} {f : Nat × Nat} : ¬ Has w m (.cells c t f) := by
  intro hc
  exact h.hm.ne hc rfl
theorem Hst.not3 (h : Hst evs start w0 evp evl evc A q1 q2 q3 q4 q5 q6 m w ks ep el ec) {c : Array Value} {t : TypeId} {f : Nat × Nat} (ht : t ≠ 71) : ¬ Has w q3 (.cells c t f) := by
  intro hc
  have := h.h3.inj hc
  simp only [Obj.cells.injEq] at this
  exact ht this.2.1.symm
theorem Fr.of (h : Keep (fun _ => False) w w1) : Fr w0 q3 m w ep w1 ep := ⟨h.mono (by simp), fun _ _ _ _ h => h⟩
theorem Fr.trans (h : Hst evs start w0 evp evl evc A q1 q2 q3 q4 q5 q6 m w ks ep el ec) (f1 : Fr w0 q3 m w ep w1 ep1) (f2 : Fr w0 q3 m w1 ep1 w2 ep2) : Fr w0 q3 m w ep w2 ep2 := by
  refine ⟨f1.keep.trans' f2.keep fun k hk hc => ?_, fun k cur hb hs he => ?_⟩
  · rcases hc with rfl | rfl | ⟨hb, cur, hh, hn⟩
    · exact Or.inl rfl
    · exact Or.inr (Or.inl rfl)
    · by_cases hS : Chg w0 q3 m w ep k
      · exact hS
      · have e := f1.keep.block k hk hS
        have hh' : Has w k (.cells cur 93 (0, 0)) := by unfold Has at hh ⊢; rw [← e]; exact hh
        exact Or.inr (Or.inr ⟨hb, cur, hh', fun hs => f1.ne k cur hh' hs (hn hs)⟩)
  · by_cases hS : Chg w0 q3 m w ep k
    · rcases hS with rfl | rfl | ⟨_, cur', hh, hn⟩
      · exact absurd hb h.notm
      · exact absurd hb (h.not3 (by decide))
      · have := hh.inj hb
        simp only [Obj.cells.injEq] at this
        exact hn (by rw [this.1]; exact hs)
    · exact f1.ne k cur hb hs (f2.ne k cur (f1.keep.has hb hS) hs he)
/-- a block of another kind stays -/
theorem Fr.cells (h : Hst evs start w0 evp evl evc A q1 q2 q3 q4 q5 q6 m w ks ep el ec) (f : Fr w0 q3 m w ep w1 ep1) {k : Nat} {c : Array Value} {t : TypeId} (hk : Has w k (.cells c t (0, 0))) (h1 : t ≠ 93) (h2 : t ≠ 71) : Has w1 k (.cells c t (0, 0)) := by
  refine f.keep.has hk ?_
  rintro (rfl | rfl | ⟨_, cur, hh, _⟩)
  · exact h.notm hk
  · exact h.not3 h2 hk
  · have := hh.inj hk
    simp only [Obj.cells.injEq] at this
    exact h1 this.2.1.symm
/-- a state in a block of its own stays -/
theorem Fr.loc (h : Hst evs start w0 evp evl evc A q1 q2 q3 q4 q5 q6 m w ks ep el ec) (f : Fr w0 q3 m w ep w1 ep1) {k : Nat} {c : Array Value} (hk : Has w k (.cells c 93 (0, 0))) (hs : c.size = 2) (hn : ep ≠ some ⟨k, 0, none⟩) : Has w1 k (.cells c 93 (0, 0)) ∧ ep1 ≠ some ⟨k, 0, none⟩ := by
  refine ⟨f.keep.has hk ?_, fun e => hn (f.ne k c hk hs e)⟩
  rintro (rfl | rfl | ⟨_, cur, hh, hn'⟩)
  · exact h.notm hk
  · exact h.not3 (by decide) hk
  · have := hh.inj hk
    simp only [Obj.cells.injEq] at this
    exact hn (hn' (by rw [this.1]; exact hs))
theorem bld_st (a b : Int) (w : World) : (Instr.build 93 #[(0, .int .i64 a), (1, .int .i64 b)]).run Try.prog w = .ok (.agg #[.int .i64 a, .int .i64 b]) w := run_build _ _ _ _ (by kernel_rfl)
theorem bld_un (w : World) : (Instr.build 100 #[]).run Try.prog w = .ok (.agg #[]) w := run_build _ _ _ _ (by kernel_rfl)
theorem zc_st : (zc Try.prog 93).size = 2 := by kernel_rfl
theorem zc_un : (zc Try.prog 100).size = 0 := by kernel_rfl
theorem zc_se : (zc Try.prog 23).size = 16 := by kernel_rfl
theorem bsl_st (s : Stt) (w : World) : (Instr.buildSlice 71 1 #[(0, .agg (stC s))]).run Try.prog w = .ok (.slice (some ⟨w.heap.size, 0, none⟩) 1 1) (w.alloc (.cells (stC s) 93)) :=
  run_buildSlice w 71 93 1 _ (stC s) ((Try.prog.info? 93).get (by kernel_rfl)) (.agg #[.int .i64 0, .int .i64 0]) (by kernel_rfl) (by kernel_rfl) (by kernel_rfl) (by decide +kernel) (by decide +kernel) (by kernel_rfl)
theorem stLayT : LayT Try.prog stLay 71 93 16 := ⟨by kernel_rfl, ⟨(Try.prog.info? 93).get (by kernel_rfl), .agg #[.int .i64 0, .int .i64 0], by kernel_rfl, by kernel_rfl, by kernel_rfl, by kernel_rfl, by kernel_rfl⟩⟩
theorem zv_un (w : World) : (zeroValue 100).run Try.prog w = .ok (.agg #[]) w := run_zeroValue (i := (Try.prog.info? 100).get (by kernel_rfl)) (by kernel_rfl) (by kernel_rfl)

def WPost (evs : List Evt) (start : Sec) (w0 : World) (evp : Option Addr) (evl evc A q1 q2 q3 q4 q5 q6 m : Nat) (w : World) (ks : List Stt) (ep : Option Addr) (s : Stt) (w' : World) : Prop :=
  ∃ ks' ep' el' ec', Hst evs start w0 evp evl evc A q1 q2 q3 q4 q5 q6 m w' ks' ep' el' ec' ∧ Fr w0 q3 m w ep w' ep' ∧ (∀ t ∈ ks, t ∈ ks') ∧ s ∈ ks' ∧ (∀ t ∈ ks', t ∉ ks → ∀ i, May evs start t i → nxt evs t i ∈ ks')
def WSpec (evs : List Evt) (start : Sec) (w0 : World) (evp : Option Addr) (evl evc A q1 q2 q3 q4 q5 q6 m n : Nat) : Prop :=
  ∀ (w : World) (ks : List Stt) (s : Stt) (ep : Option Addr) (el ec : Nat) (R : Value → World → Prop), 1024 - s.1 ≤ n → Hst evs start w0 evp evl evc A q1 q2 q3 q4 q5 q6 m w ks ep el ec → Reach evs start s →
    (∀ w', WPost evs start w0 evp evl evc A q1 q2 q3 q4 q5 q6 m w ks ep s w' → R (.tuple #[]) w') → CallV Try.prog 62 ((.agg (stC s)) :: (wkP q1 q2 q3 q4 q5 q6).toList).toArray w R
/-- the end of the loop's body, as it is printed -/
def WTail (q5 q6 b b5 : Nat) (i : Int) (w : World) (K3 : Int × Unit → World → Prop) : Prop :=
  LdV q5 0 (At w) fun v18 => OpS v18 fun p5 l5 c5 => LdV b 0 (At w) fun v19 => OpI .i64 v19 fun n6 => CallV Try.prog 63 #[.slice p5 l5 c5, .int .i64 n6, .int .i64 i] w fun v20 w => OpB v20 fun g3 => Cb g3 (K3 (IntKind.wrap .i64 (i + 1), ()) w) (HeldR w fun S w => LdV b 0 S fun v21 => OpI .i64 v21 fun n7 => Req (0 ≤ i) (LdV b 1 S fun v22 => OpI .i64 v22 fun n8 => DoQ Try.prog (Instr.build 93 #[(0, .int .i64 (ibits .or .i64 n7 (ishl .i64 1 i))), (1, .int .i64 n8)]) S fun v23 => OpA 2 v23 fun cs10 => Alc 93 (zc Try.prog 93) w fun b6 w => Hld (S w) (StA 2 b6 0 cs10 w fun w => Hld (S w) (LdV b5 0 (At w) fun v24 => OpB v24 fun g4 => JoinC (σ := Unit) (fun J4 => Cb g4 (StV b6 1 (.int .i64 i) w fun w => J4 () w) (J4 () w)) (fun _ s4 w => LdV q6 0 (At w) fun v25 => OpG 62 v25 fun ca => LdA 2 b6 0 (At w) fun cs11 => CallV Try.prog 62 ((.agg cs11) :: ca.toList).toArray w fun v26 w => K3 (IntKind.wrap .i64 (i + 1), ()) w)))))
theorem walk_tail {n : Nat} (ih : WSpec evs start w0 evp evl evc A q1 q2 q3 q4 q5 q6 m n) (hev : SlL evLay w0 evp evl evs) (hl : evl ≤ 10) {s : Stt} {b b5 i : Nat} {x : Evt} {K3 : Int × Unit → World → Prop} (h : Hst evs start w0 evp evl evc A q1 q2 q3 q4 q5 q6 m w ks ep el ec)
    (hs : Reach evs start s) (hn : 1024 - s.1 ≤ n + 1) (hx : evs[i]? = some x) (hbit : s.1.testBit i = false) (hpre : x.wr = true ∨ (0 ≤ x.to ∧ x.val = cur evs start s.2))
    (hb : Has w b (.cells (stC s) 93 (0, 0))) (hnb : ep ≠ some ⟨b, 0, none⟩) (hb5 : Has w b5 (.cells (evC x) 31 (0, 0)))
    (hK : ∀ w' ks' ep' el' ec', Hst evs start w0 evp evl evc A q1 q2 q3 q4 q5 q6 m w' ks' ep' el' ec' → Fr w0 q3 m w ep w' ep' → (∀ t ∈ ks, t ∈ ks') → (∀ t ∈ ks', t ∉ ks → ∀ i, May evs start t i → nxt evs t i ∈ ks') → (May evs start s i → nxt evs s i ∈ ks') → K3 (((i + 1 : Nat) : Int), ()) w') :
    WTail q5 q6 b b5 (i : Int) w K3 := by
  unfold WTail
  have hlen := hev.1
  have hi : i < evs.length := (List.getElem?_eq_some_iff.1 hx).1
  have ew : IntKind.wrap .i64 ((i : Int) + 1) = ((i + 1 : Nat) : Int) := by rw [wrapI (by omega) (by omega)]; omega
  have hsm := hs.small
  have hd10 : s.1 < 1024 := Nat.lt_of_lt_of_le hsm.1 (Nat.le_trans (Nat.pow_le_pow_right (by decide) (show evs.length ≤ 10 by omega)) (by decide))
  rw [ew]
  refine LdV_has (v := .slice evp evl evc) h.h5 rfl ?_
  simp only [OpS_slice]
  refine LdV_has (v := .int .i64 (s.1 : Int)) hb rfl ?_
  simp only [OpI_int]
  refine run_blocked (h.ev hev) hl (by omega) (by omega) fun g w1 hg k1 => ?_
  simp only [OpB_bool]
  have H1 := h.keep k1
  refine Cb_of (fun hc => ?_) (fun hc => ?_)
  · refine hK w1 ks ep el ec H1 (Fr.of k1) (fun _ h => h) (fun t h1 h2 => absurd h1 h2) fun hm => ?_
    obtain ⟨_, _, _, _, h4⟩ := hm
    exact absurd (hg.1 hc) h4
  have hmay : May evs start s i := ⟨x, hx, hbit, hpre, fun hbl => by rw [hg.2 hbl] at hc; cases hc⟩
  intro d
  have hb1 : Has (w1.dr d) b (.cells (stC s) 93 (0, 0)) := k1.has hb (by simp)
  refine ⟨fun w' => Has w' b (.cells (stC s) 93 (0, 0)), hb1, ?_⟩
  refine LdV_of (v := .int .i64 (s.1 : Int)) (fun w' hw => ⟨_, _, _, hw, rfl⟩) ?_
  simp only [OpI_int]
  refine ⟨by omega, ?_⟩
  refine LdV_of (v := .int .i64 s.2) (fun w' hw => ⟨_, _, _, hw, rfl⟩) ?_
  simp only [OpI_int]
  refine ⟨_, fun w' _ => bld_st _ _ _, ?_⟩
  rw [bit_set (by omega) (by omega)]
  simp only [OpA_agg]
  refine ⟨rfl, ?_⟩
  refine alc_new fun w2 hb6 k2 hz2 => ?_
  have hne : (w1.dr d).heap.size ≠ b := by have := hb1.lt; omega
  refine ⟨k2.has hb1 (by simp), ?_⟩
  refine StA_all hb6 rfl zc_st (one_stC (s.1 ||| 2 ^ i, s.2)) ?_
  have hb6' := hb6.upd_same (.cells (stC (s.1 ||| 2 ^ i, s.2)) 93 (0, 0))
  have k3 : Keep (fun _ => False) (w1.dr d) (w2.upd (w1.dr d).heap.size (.cells (stC (s.1 ||| 2 ^ i, s.2)) 93 (0, 0))) := k2.upd (by omega) _
  have e3 : (#[.int .i64 ((s.1 ||| 2 ^ i : Nat) : Int), .int .i64 s.2] : Array Value) = stC (s.1 ||| 2 ^ i, s.2) := rfl
  rw [e3]
  generalize hw3 : w2.upd (w1.dr d).heap.size (.cells (stC (s.1 ||| 2 ^ i, s.2)) 93 (0, 0)) = w3 at *
  refine ⟨k3.has hb1 (by simp), ?_⟩
  have kk : Keep (fun _ => False) w w3 := (k1.dr d).trans k3
  refine LdV_has (v := .bool x.wr) (kk.has hb5 (by simp)) rfl ?_
  simp only [OpB_bool]
  refine ⟨fun _ w' => Keep (fun _ => False) w w' ∧ Has w' (w1.dr d).heap.size (.cells (stC (nxt evs s i)) 93 (0, 0)), ?_, ?_⟩
  · have hwr : (evs.getD i default).wr = x.wr := by rw [at_lt hi] at hx; cases hx; rfl
    refine Cb_of (fun hc => ?_) (fun hc => ?_)
    · refine StV_of hb6' (by show 1 < 2; decide) rfl ⟨kk.upd (fun hlt => ?_) _, ?_⟩
      · have := k1.size; simp only [heap_dr'] at hlt; omega
      · have := hb6'.upd_same (.cells (stC (nxt evs s i)) 93 (0, 0))
        unfold nxt at this ⊢
        rw [if_pos (by rw [hwr, hc])] at this ⊢
        exact this
    · refine ⟨kk, ?_⟩
      unfold nxt
      rw [if_neg (by rw [hwr, hc]; simp)]
      exact hb6'
  rintro _ _ w4 ⟨k4, hb4⟩
  have H4 := h.keep k4
  refine LdV_has (v := .func (.func 62) #[] (wkP q1 q2 q3 q4 q5 q6)) H4.h6 rfl ?_
  refine ⟨_, rfl, ?_⟩
  refine LdA_all hb4 rfl ?_
  have hgt := nxt_gt (evs := evs) hbit
  refine ih w4 ks (nxt evs s i) ep el ec _ (by omega) H4 (hs.step hmay) fun w5 hp => ?_
  obtain ⟨ks', ep', el', ec', H5, f5, hsub, hin, hcl⟩ := hp
  exact hK w5 ks' ep' el' ec' H5 (Fr.trans h (Fr.of k4) f5) hsub hcl fun _ => hin
end walk
end Go.Proofs
