/-
  The memory that keeps records: New, Used, Room, Records, Append.
-/
import Derived.Test.YthhimblbnnafkaaGreatPlainB
import Derived.Test.YthhimblbnnafkaaGreatMains
import Derived.Test.YthhimblbnnafkaaGreatFRam
namespace Go.Proofs
open Go Go.Ev
set_option linter.unusedSimpArgs false
set_option linter.unusedVariables false
set_option maxRecDepth 100000

def raC (m : Nat) (size : Int) (p : Option Addr) (l c : Nat) : Array Value := #[.pointer (some ⟨m, 0, none⟩), .int .i64 size, .slice p l c]
/-- a memory in block r, on the power m, of so many bytes, that holds bs in a row of its own -/
structure RaAt (w : World) (base m r : Nat) (size : Int) (p : Option Addr) (l c : Nat) (bs : List Int) : Prop where
  cells : Has w r (.cells (raC m size p l c) 214 (0, 0))
  row : OwnL byLay w base 5 p l c bs
section calls
variable {w : World} {base m r : Nat} {size : Int} {p : Option Addr} {l c : Nat} {bs : List Int} {R : Value → World → Prop}
theorem ra_New (hs : 37 ≤ size) (hs2 : size ≤ 65536) (hK : ∀ w', RaAt w' base m w.heap.size size none 0 0 [] → Keep (fun _ => False) w w' → w'.heap.size = w.heap.size + 1 → R (.tuple #[.pointer (some ⟨w.heap.size, 0, none⟩), .int .i64 0]) w') : CallV Tryz.prog 54 #[.int .i64 size, .pointer (some ⟨m, 0, none⟩)] w R := by
  apply C_nvram_New
  unfold F_nvram_New
  refine ⟨rfl, rfl, rfl, rfl, ?_⟩
  have e : (cond (cond (decide (size < 37)) true (decide (size > 65536))) true false) = false := by
    rw [decide_eq_false (by omega), decide_eq_false (by omega)]; rfl
  rw [e]
  refine (Cb_false (p := _)).2 ?_
  refine DoQ_of (v := .agg (raC m size none 0 0)) (fun d => run_build _ _ _ _ (by kernel_rfl)) ?_
  refine OpA_agg.2 ⟨rfl, ?_⟩
  rw [Alc_iff]
  exact Ret_nil.2 (hK _ ⟨Has.new _ _, OwnL.nil⟩ (Keep.new _ _ _) (by simp))
theorem ra_Room (h : RaAt w base m r size p l c bs) (hs : 37 ≤ size) (hs2 : size ≤ 65536) (hl : (l : Int) ≤ size) (hK : ∀ d, R (.int .i64 ((size - (bs.length : Int)) / 37)) (w.dr d)) : CallV Tryz.prog 221 #[.pointer (some ⟨r, 0, none⟩)] w R := by
  apply C_nvram_Ram_Room
  unfold F_nvram_Ram_Room
  refine LdV_has (v := .int .i64 size) h.cells rfl ?_
  refine OpI_int.2 ?_
  refine LdV_has (v := .slice p l c) h.cells rfl ?_
  refine OpS_slice.2 ⟨by decide, fun d => ?_⟩
  refine Ret_nil.2 ?_
  have hlen := h.row.length
  have e1 : IntKind.wrap .i64 (size - (l : Int)) = size - (l : Int) := wrapI (by omega) (by omega)
  have e2 : IntKind.wrap .i64 (Int.tdiv (size - (l : Int)) 37) = (size - (l : Int)) / 37 := by
    rw [Int.tdiv_eq_ediv_of_nonneg (by omega), wrapI (by omega) (by omega)]
  rw [e1, e2, hlen]
  exact hK d
theorem ra_Records (h : RaAt w base m r size p l c bs) (hl : l ≤ 1000000) (hby : By bs) (hK : ∀ p' c' w', OwnL rLay w' w.heap.size 246 p' (scanB bs).length c' (scanB bs) → Keep (fun _ => False) w w' → R (.slice p' (scanB bs).length c') w') : CallV Tryz.prog 62 #[.pointer (some ⟨r, 0, none⟩)] w R := by
  apply C_nvram_Ram_Records
  unfold F_nvram_Ram_Records
  refine LdV_has (v := .slice p l c) h.cells rfl ?_
  refine OpS_slice.2 ?_
  refine c_Scan h.row.sl hl h.row.cap.1 hby fun p' c' w' o k => ?_
  exact T2_mk.2 (OpS_slice.2 (OpI_int.2 (Ret_nil.2 (hK p' c' w' o k))))
/-- what Append answers, the power behind it, and what the memory holds then -/
def appP (pw : Pow) (size : Int) (bs : List Int) (x : Rec) : Int × Pow × List Int :=
  if pw.on = false then (4, pw, bs)
  else if (size - (bs.length : Int)) / 37 < 1 then (9, pw, bs)
  else if (stepP pw).1 = false then (4, (stepP pw).2, bs ++ (packB x).take 18)
  else (0, (stepP pw).2, bs ++ packB x)
theorem ra_Append {pw : Pow} {x : Rec} (h : RaAt w base m r size p l c bs) (hm : MaAt w m pw) (hx : recGood x = true) (hs : 37 ≤ size) (hs2 : size ≤ 65536) (hl : (l : Int) ≤ size) (hb : base ≤ w.heap.size)
    (hK : ∀ p' l' c' w', RaAt w' base m r size p' l' c' (appP pw size bs x).2.2 → MaAt w' m (appP pw size bs x).2.1 → (p' = p ∨ ∃ k, w.heap.size ≤ k ∧ p' = some ⟨k, 0, none⟩) → Keep (fun k => k = m ∨ k = r ∨ p = some ⟨k, 0, none⟩) w w' → R (.int .i64 (appP pw size bs x).1) w') :
    CallV Tryz.prog 165 #[.pointer (some ⟨r, 0, none⟩), .agg (recV x)] w R := by
  apply C_nvram_Ram_Append
  unfold F_nvram_Ram_Append
  have hlen := h.row.length
  have hmr : m ≠ r := fun e => by
    subst e
    have := (show Has w m _ from hm).inj h.cells
    simp only [Obj.cells.injEq] at this
    exact absurd this.2.1 (by decide)
  refine alc_fresh fun w1 hb1 k1 z1 => ?_
  refine LdA_all hb1 rfl ?_
  refine c_Pack (fun hg _ _ => by rw [hx] at hg; cases hg) (fun _ g c2 w2 o2 k2 => ?_)
  refine T2_mk.2 (OpS_slice.2 (OpI_int.2 ?_))
  refine (Cb_false (p := _)).2 ?_
  have k02 := k1.trans k2
  have hc2 := k02.has h.cells (by simp)
  have hm2 : MaAt w2 m pw := k02.has hm (by simp)
  have ow2 := h.row.keep k02 (by simp)
  have keepF : ∀ {w'}, Keep (fun _ => False) w w' → Keep (fun k => k = m ∨ k = r ∨ p = some ⟨k, 0, none⟩) w w' := fun k => k.mono (by simp)
  refine LdV_has (v := .pointer (some ⟨m, 0, none⟩)) hc2 rfl ?_
  refine OpN_some.2 ?_
  refine ma_On hm2 ?_
  refine OpB_bool.2 ?_
  unfold appP at hK
  refine Cb_of (fun hon => ?_) (fun hon => ?_)
  · have hon : pw.on = false := by simpa using hon
    rw [if_pos hon] at hK
    exact Ret_nil.2 (hK p l c w2 ⟨hc2, ow2⟩ hm2 (Or.inl rfl) (keepF k02))
  have hon : pw.on = true := by simpa using hon
  rw [if_neg (by rw [hon]; simp)] at hK
  refine ra_Room (⟨hc2, ow2⟩ : RaAt w2 base m r size p l c bs) hs hs2 hl fun d => ?_
  refine OpI_int.2 ?_
  have k02d : Keep (fun _ => False) w (w2.dr d) := k02.dr d
  have ow2d := h.row.keep k02d (by simp)
  refine Cb_of (fun hr => ?_) (fun hr => ?_)
  · have hr : (size - (bs.length : Int)) / 37 < 1 := by simpa using hr
    rw [if_pos hr] at hK
    exact Ret_nil.2 (hK p l c (w2.dr d) ⟨hc2, ow2d⟩ hm2 (Or.inl rfl) (keepF k02d))
  have hr : ¬ (size - (bs.length : Int)) / 37 < 1 := by simpa using hr
  rw [if_neg hr] at hK
  refine LdV_has (v := .pointer (some ⟨m, 0, none⟩)) (hc2.dr d) rfl ?_
  refine OpN_some.2 ?_
  refine ma_Step (w := w2.dr d) (p := pw) hm2 fun w3 hm3 k3 z3 => ?_
  refine OpB_bool.2 ?_
  have hr3 := k3.has (hc2.dr d) (fun e => hmr e.symm)
  have pm : ∀ {w' : World} {e : TypeId} {b1 : Nat} {pp : Option Addr} {ll cc : Nat} {ys : List Int} {k : Nat} {cs : Array Value} {t : TypeId} {f : Nat × Nat}, OwnL byLay w' b1 5 pp ll cc ys → Has w' k (.cells cs t f) → t ≠ 5 → ¬ pp = some ⟨k, 0, none⟩ := by
    intro w' e b1 pp ll cc ys k cs t f ho hk ht hp
    rcases Own.cases ho with ⟨h0, _⟩ | ⟨b', cur, h0, _, hg, _⟩
    · rw [h0] at hp; cases hp
    · rw [h0] at hp; cases hp
      have := hg.inj hk
      simp only [Obj.cells.injEq] at this
      exact ht this.2.1.symm
  have ow3 : OwnL byLay w3 base 5 p l c bs := ow2d.keep k3 fun k hk e => by
    subst e
    exact pm (e := 0) ow2d (show Has (w2.dr d) _ _ from hm2) (by decide) hk
  have og3 : OwnL byLay w3 w1.heap.size 5 (some ⟨g, 0, none⟩) 37 c2 (packB x) := (o2.keep (Keep.drew (fun _ => False) w2 d) (by simp)).keep k3 fun k hk e => by
    subst e
    exact pm (e := 0) (o2.keep (Keep.drew (fun _ => False) w2 d) (by simp)) (show Has (w2.dr d) _ _ from hm2) (by decide) hk
  have k03 : Keep (fun k => k = m ∨ k = r ∨ p = some ⟨k, 0, none⟩) w w3 := (keepF k02d).trans (k3.mono fun k hk => Or.inl hk)
  have hs03 : w.heap.size ≤ w3.heap.size := k03.size
  -- the end, in both ways
  have put : ∀ (ds : List Int) (p5 : Option Addr) (l5 c5 : Nat) (w5 : World), OwnL byLay w5 base 5 p5 l5 c5 (bs ++ ds) → Keep (fun k => p = some ⟨k, 0, none⟩) w3 w5 → (p5 = p ∨ p5 = some ⟨w3.heap.size, 0, none⟩) → ∀ K : World → Prop,
      (∀ w', RaAt w' base m r size p5 l5 c5 (bs ++ ds) → MaAt w' m (stepP pw).2 → (p5 = p ∨ ∃ k, w.heap.size ≤ k ∧ p5 = some ⟨k, 0, none⟩) → Keep (fun k => k = m ∨ k = r ∨ p = some ⟨k, 0, none⟩) w w' → K w') →
      StV r 2 (.slice p5 l5 c5) w5 K := by
    intro ds p5 l5 c5 w5 o5 k5 hp5 K hK'
    have hr5 := k5.has hr3 (pm (e := 0) ow3 hr3 (by decide))
    have hm5 : MaAt w5 m (stepP pw).2 := k5.has hm3 (pm (e := 0) ow3 (show Has w3 _ _ from hm3) (by decide))
    refine StV_of hr5 (by show 2 < 3; decide) rfl ?_
    refine (hK' _ ⟨hr5.upd_same _, o5.keep (Keep.one _ _ _) fun k hk e => by subst e; exact pm (e := 0) o5 hr5 (by decide) hk⟩ (Has.upd hm5 hmr) ?_ ?_)
    · rcases hp5 with h5 | h5
      · exact Or.inl h5
      · exact Or.inr ⟨_, hs03, h5⟩
    · exact (k03.trans (k5.mono fun k hk => Or.inr (Or.inr hk))).upd (fun _ => Or.inr (Or.inl rfl)) _
  refine Cb_of (fun hst => ?_) (fun hst => ?_)
  · have hst : (stepP pw).1 = false := by simpa using hst
    rw [if_pos hst] at hK
    intro d2
    refine ⟨fun _ => True, trivial, ?_⟩
    refine LdV_has (v := .slice p l c) (hr3.dr d2) rfl ?_
    refine OpS_slice.2 ?_
    have hcap := og3.cap
    refine Slc_hiN (hi := 18) (by omega) ?_
    have kd : Keep (fun _ => False) w3 (w3.dr d2) := Keep.drew _ _ d2
    have hsub := (og3.keep kd (by simp)).sl.sub (lo := 0) (hi := 18) (m := c2) (by omega) (by omega) (by omega)
    rw [List.drop_zero] at hsub
    obtain ⟨p5, c5, w5, hr5, o5, k5, hp5⟩ := run_appendF byLayT (ow3.keep kd (by simp)) hsub (ty := 22) (c2 := c2 - 0) (by omega) (by simp only [maxLen]; omega) (Nat.le_trans hb hs03)
    refine ⟨_, _, hr5, OpS_slice.2 ⟨trivial, ?_⟩⟩
    refine put _ p5 _ c5 w5 o5 ((kd.mono (by simp)).trans k5) hp5 _ fun w' a1 a2 a3 a4 => ⟨trivial, Ret_nil.2 ?_⟩
    exact hK p5 _ c5 w' a1 a2 a3 a4
  · have hst : (stepP pw).1 = true := by simpa using hst
    rw [if_neg (by rw [hst]; simp)] at hK
    refine LdV_has (v := .slice p l c) hr3 rfl ?_
    refine OpS_slice.2 ?_
    obtain ⟨p5, c5, w5, hr5, o5, k5, hp5⟩ := run_appendF byLayT ow3 og3.sl (ty := 22) (c2 := c2) (by omega) (by simp only [maxLen]; omega) (Nat.le_trans hb hs03)
    refine ⟨_, _, hr5, OpS_slice.2 ?_⟩
    refine put _ p5 _ c5 w5 o5 k5 hp5 _ fun w' a1 a2 a3 a4 => Ret_nil.2 ?_
    exact hK p5 _ c5 w' a1 a2 a3 a4
end calls
end Go.Proofs
