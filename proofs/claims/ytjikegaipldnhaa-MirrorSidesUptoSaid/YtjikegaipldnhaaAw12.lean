/-
  THE PAIR'S LAWS: how they begin, and the fixed fact.
-/
import Derived.Test.YtjikegaipldnhaaMPair
import Derived.Test.YtjikegaipldnhaaFLaw12
namespace Go.Proofs
open Go Go.Ev
set_option linter.unusedSimpArgs false
set_option linter.unusedVariables false
set_option maxRecDepth 100000

def PB.from_ (q : PB) (n : Nat) : Prop := n ≤ q.p ∧ n ≤ q.mp ∧ n ≤ q.m ∧ n ≤ q.a ∧ n ≤ q.b ∧ n ≤ q.base
theorem PFoot.low {q : PB} {w w' : World} {n : Nat} (h : Keep (PFoot q w) w w') (hn : q.from_ n) : Keep (fun k => n ≤ k) w w' := h.mono fun k hf => by
  obtain ⟨h1, h2, h3, h4, h5, h6⟩ := hn
  rcases hf with e | e | e | e | e | ⟨e, _⟩ <;> omega
/-- what stays below n, all in all -/
theorem Keep.lows {n : Nat} {w w1 w2 : World} (h : Keep (fun _ => False) w w1) (hn : w.heap.size ≤ n) (k : Keep (fun k => n ≤ k) w1 w2) : Keep (fun _ => False) w w2 :=
  h.trans' k fun i hi hh => by omega
def ps0 : PS := ⟨[], 0, 0, true, true, ⟨true, 0, 0⟩, [], []⟩
def start12 (n room : Int) (w : World) (K : Nat → Nat → Nat → Nat → Int → Nat → Nat → Int → Nat → Nat → Int → World → Prop) : Prop :=
  CallV Try.prog 10 #[] w fun v w => OpN v fun b o => CallV Try.prog 11 #[.int .i64 n, .pointer (some ⟨b, o, none⟩)] w fun v1 w => T2 v1 fun v2 v3 => OpN v2 fun b1 o1 =>
  OpI .i64 v3 fun n0 => CallV Try.prog 11 #[.int .i64 n, .pointer (some ⟨b, o, none⟩)] w fun v4 w => T2 v4 fun v5 v6 => OpN v5 fun b2 o2 => OpI .i64 v6 fun n1 => CallV
  Try.prog 12 #[.pointer (some ⟨b1, o1, none⟩), .pointer (some ⟨b2, o2, none⟩), .int .i64 room] w fun v7 w => T2 v7 fun v8 v9 => OpN v8 fun b3 o3 => OpI .i64 v9 fun n2 => K b o b1 o1 n0 b2 o2 n1 b3 o3 n2 w
section calls
variable {w : World} {R : Value → World → Prop}
theorem start12_of {n room : Int} {K : Nat → Nat → Nat → Nat → Int → Nat → Nat → Int → Nat → Nat → Int → World → Prop} (hs : 37 ≤ n) (hs2 : n ≤ 65536) (h1 : 1 ≤ room) (h2 : room ≤ 64)
    (hK : ∀ q w', PairAt w' q ps0 → q.room = room → q.sz = n → q.from_ w.heap.size → Keep (fun _ => False) w w' → K q.m 0 q.a 0 0 q.b 0 0 q.p 0 0 w') : start12 n room w K := by
  unfold start12
  refine ma_New fun m w1 hmb hm k1 z1 => ?_
  refine OpN_some.2 ?_
  refine ra_New (base := w.heap.size) hs hs2 fun w2 hr2 k2 z2 => ?_
  refine T2_mk.2 (OpN_some.2 (OpI_int.2 ?_))
  refine ra_New (base := w.heap.size) hs hs2 fun w3 hr3 k3 z3 => ?_
  refine T2_mk.2 (OpN_some.2 (OpI_int.2 ?_))
  have k13 := k2.trans k3
  refine pr_New (base := w.heap.size) (sz := n) (k13.has hm (by simp)) ⟨none, 0, 0, none, 0, 0, hr2.keep k3 (by simp) (by simp), hr3, by simp⟩ (by omega) ⟨by simp; omega, by simp; omega⟩ ⟨hs, hs2⟩ h1 h2 (by omega) fun p c mp w4 hp k4 hpb hmpb => ?_
  refine T2_mk.2 (OpN_some.2 (OpI_int.2 ?_))
  refine hK ⟨p, c, mp, m, w1.heap.size, w2.heap.size, w.heap.size, room, n⟩ w4 hp rfl rfl ?_ ((k1.trans k13).trans k4)
  refine ⟨?_, ?_, ?_, ?_, ?_, Nat.le_refl _⟩ <;> simp only <;> omega
/-- what a memory keeps -/
theorem pr_Rec {q : PB} {s : PS} (h : PairAt w q s) (f : Bool) (hby : By (cond f s.xb s.xa)) (hK : ∀ p' c' w', OwnL rLay w' w.heap.size 46 p' (scanB (cond f s.xb s.xa)).length c' (scanB (cond f s.xb s.xa)) → Keep (fun _ => False) w w' → R (.slice p' (scanB (cond f s.xb s.xa)).length c') w') :
    CallV Try.prog 16 #[.pointer (some ⟨ramB q f, 0, none⟩)] w R := by
  obtain ⟨pa, la, ca, pb, lb, cb, ha, hb, hne⟩ := h.rams
  have := h.form
  have := h.fit
  cases f
  · exact ra_Records ha (by rw [ha.row.length]; omega) hby hK
  · exact ra_Records hb (by rw [hb.row.length]; omega) hby hK
theorem by_flat {rs : List Rec} (h : ∀ r ∈ rs, SecOk r.data) : By (rs.flatMap packB) := by
  intro x hx
  obtain ⟨r, hr, hx⟩ := List.mem_flatMap.1 hx
  exact by_packB (h r hr) x hx
theorem scan_flat {rs : List Rec} {t : List Int} (h : ∀ r ∈ rs, recGood r = true ∧ (0 ≤ r.ver ∧ r.ver ≤ 18446744073709551615) ∧ SecOk r.data) (ht : t.length < 37) : scanB (rs.flatMap packB ++ t) = rs := by
  unfold scanB
  refine scan_packs rs t _ h ht ?_
  rw [List.length_append, len_flatPack]; omega
theorem aw12 : CallV Try.prog 9 #[] w fun v w' => v = .bool true ∧ Keep (fun _ => False) w w' := by
  apply C_ravelinlaw12_awake
  unfold F_ravelinlaw12_awake
  refine start12_of (by decide) (by decide) (by decide) (by decide) fun q w1 hp hro hsz hlow k1 => ?_
  refine ⟨rfl, rfl, (Cb_false (p := _)).2 ?_⟩
  refine DoQ_of (v := .agg (secV (sec [8]))) (fun d => run_build _ _ _ _ (by kernel_rfl)) ?_
  refine OpA_agg.2 ⟨rfl, ?_⟩
  refine pr_Put hp true fun w2 hp2 k2 => ?_
  rw [hro, hsz] at hp2 ⊢
  have hsok : SecOk (sec [8]) := sec_ok (by simp)
  have e : putP 2 200 ps0 true 5 (sec [8]) = ((1, 0), ⟨[(5, (sec [8], 1))], 1, 0, true, true, ⟨true, 0, 2⟩, packB ⟨1, 1, 5, sec [8]⟩, packB ⟨1, 1, 5, sec [8]⟩⟩) := rfl
  rw [e] at hp2 ⊢
  refine T2_mk.2 (OpI_int.2 (OpI_int.2 ⟨rfl, rfl, (Cb_true (q := _)).2 ?_⟩))
  have hb : ∀ f, (cond f (packB ⟨1, 1, 5, sec [8]⟩) (packB ⟨1, 1, 5, sec [8]⟩)) = [(⟨1, 1, 5, sec [8]⟩ : Rec)].flatMap packB ++ [] := by intro f; cases f <;> simp
  have hsc : scanB ([(⟨1, 1, 5, sec [8]⟩ : Rec)].flatMap packB ++ []) = [⟨1, 1, 5, sec [8]⟩] := scan_flat (by simp; exact ⟨rfl, hsok⟩) (by decide)
  have hby : By ([(⟨1, 1, 5, sec [8]⟩ : Rec)].flatMap packB ++ []) := by
    rw [List.append_nil]
    exact by_flat (by simp; exact hsok)
  have k12 : Keep (fun _ => False) w w2 := Keep.lows k1 (Nat.le_refl _) (PFoot.low k2 hlow)
  refine pr_Rec hp2 false (by rw [hb]; exact hby) fun p3 c3 w3 o3 k3 => ?_
  refine OpS_slice.2 ?_
  have hl : ∀ f, (scanB (cond f (packB ⟨1, 1, 5, sec [8]⟩) (packB ⟨1, 1, 5, sec [8]⟩))).length = 1 := by intro f; rw [hb, hsc]; rfl
  have e1 : ((((scanB (cond false (packB ⟨1, 1, 5, sec [8]⟩) (packB ⟨1, 1, 5, sec [8]⟩))).length : Nat) : Int) == 1) = true := by rw [hl]; rfl
  refine Cb_of (fun _ => ?_) (fun h => absurd (h.symm.trans e1) (by decide))
  refine pr_Rec (hp2.keep k3) true (by rw [hb]; exact hby) fun p4 c4 w4 o4 k4 => ?_
  refine OpS_slice.2 (Ret_nil.2 ⟨?_, (k12.trans k3).trans k4⟩)
  have e2 : ((((scanB (cond true (packB ⟨1, 1, 5, sec [8]⟩) (packB ⟨1, 1, 5, sec [8]⟩))).length : Nat) : Int) == 1) = true := by rw [hl]; rfl
  exact congrArg Value.bool e2
end calls
end Go.Proofs
