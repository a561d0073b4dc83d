/-
  SEVERAL TEXTS IN ONE: FWrite, WriteM, WholeP, FWhole, WholeX, WholeW.
-/
import Derived.Test.YthhimblbnnafkaaGreatChecked
import Derived.Test.YthhimblbnnafkaaGreatEv
import Derived.Test.YthhimblbnnafkaaGreatMix
import Derived.Test.YthhimblbnnafkaaGreatPendM
import Derived.Test.YthhimblbnnafkaaGreatCutP
import Derived.Test.YthhimblbnnafkaaGreatPkRefs
/- PRINTED BY pr.py (own program): what the evaluator of <Name>Ev makes of the code of some functions. -/
namespace Go.Proofs
open Go.Ev
set_option linter.unusedVariables false
set_option maxRecDepth 100000
def F_intent_Write (s : Array Value) (ramsp : Option Addr) (ramsl : Nat) (ramsc : Nat) (version : Int) (lba : Int) (data : Array Value) (epoch : Int) (w : World) (R : Value → World → Prop) : Prop :=
  Alc 51 s w fun b w => Alc 37 data w fun b1 w => LdA 4 b 0 (At w) fun cs => LdA 16 b1 0 (At w) fun cs1 => CallV Tryz.prog 35 #[.agg cs, .int .i64 lba, .agg cs1] w fun v w
  => T2 v fun v1 v2 => OpS v1 fun p l c => OpI .i64 v2 fun n => Cb (n != 0) (Ret [] (R (.int .i64 n) w)) (CallV Tryz.prog 131 #[.slice ramsp ramsl ramsc, .int .u64 version,
  .slice p l c] w fun v3 w => OpI .i64 v3 fun n1 => Cb (n1 != 0) (Ret [] (R (.int .i64 n1) w)) (LdA 4 b 0 (At w) fun cs2 => CallV Tryz.prog 38 #[.agg cs2, .slice p l c, .int
  .u32 epoch] w fun v4 w => OpI .i64 v4 fun n2 => Cb (n2 != 0) (Ret [] (R (.int .i64 n2) w)) (CallV Tryz.prog 133 #[.slice ramsp ramsl ramsc, .int .u64 version] w fun v5 w
  => OpI .i64 v5 fun n3 => Ret [] (R (.int .i64 n3) w))))
theorem C_intent_Write {s : Array Value} {ramsp : Option Addr} {ramsl : Nat} {ramsc : Nat} {version : Int} {lba : Int} {data : Array Value} {epoch : Int} {w : World} {R : Value → World → Prop} (h : F_intent_Write s ramsp ramsl ramsc version lba data epoch w R) : CallV Tryz.prog 57 #[.agg s, .slice ramsp ramsl ramsc, .int .u64 version, .int .i64 lba, .agg data, .int .u32 epoch] w R := by
  exact calls_of_F (args := [.agg s, .slice ramsp ramsl ramsc, .int .u64 version, .int .i64 lba, .agg data, .int .u32 epoch]) (mkAnn [] [] [] [] []) Tryz_mixed Tryz.func57 rfl rfl (by kernel_rfl) h
end Go.Proofs

/-
  A SET AND TWO MEMORIES ON ONE POWER: a write by way of the journal, at any power.
-/
namespace Go.Proofs
open Go Go.Ev Go.RowKit
set_option linter.unusedSimpArgs false
set_option linter.unusedVariables false
set_option maxRecDepth 100000

/-- sealed data stay sound, whatever the power does -/
theorem apply1_ss {g : Geo} {s : SS} (h : SsOk g s) {x : PutS} (hx : 0 ≤ x.plc.dk ∧ x.plc.dk < g.d) (hc : CelOk x.cel) {ep : Int} : SsOk g (apply1 s x ep).2 := by
  have hn := h.num
  have hmem := h.get hx.1 hx.2
  have hslen := h.len _ hmem
  have hok := h.ok _ hmem
  unfold apply1
  generalize hD : s.ds.getD x.plc.dk.toNat dsk0 = D at *
  have hl : ((writeD s.pw D x.plc.at_ x.cel ep).2.2.secs.length : Int) = g.c * g.s := by rw [writeD_len]; exact hslen
  have hk : DskOk (writeD s.pw D x.plc.at_ x.cel ep).2.2 := by
    unfold writeD
    split
    · exact hok
    · split
      · exact hok
      · split
        · exact hok
        · split
          · exact hok
          · refine ⟨fun y hy => ?_, hok.2⟩
            rcases List.mem_or_eq_of_mem_set hy with hy | rfl
            · exact hok.1 y hy
            · exact hc
  refine ⟨h.geo, by simpa using hn, fun E hE => ?_, fun E hE => ?_⟩
  · rcases List.mem_or_eq_of_mem_set hE with hE | rfl
    · exact h.len E hE
    · exact hl
  · rcases List.mem_or_eq_of_mem_set hE with hE | rfl
    · exact h.ok E hE
    · exact hk
theorem applyL_ss {g : Geo} {ep : Int} : ∀ (xs : List PutS) (s : SS), SsOk g s → (∀ x ∈ xs, PutOk g x ∧ CelOk x.cel) → SsOk g (applyL ep xs s).2
  | [], s, h, _ => h
  | x :: xs, s, h, hx => by
    have h1 := apply1_ss (ep := ep) h (hx x (by simp)).1.1 (hx x (by simp)).2
    show SsOk g (if _ ∧ _ then _ else _ : Int × SS).2
    split
    · exact h1
    · exact applyL_ss xs _ h1 fun y hy => hx y (by simp [hy])
theorem applyS_ss {g : Geo} {s : SS} {ep : Int} {xs : List PutS} (h : SsOk g s) (hx : ∀ x ∈ xs, CelOk x.cel) : SsOk g (applyS g s xs ep).2 := by
  unfold applyS
  split
  · rename_i hp
    exact applyL_ss xs s h fun x hx' => ⟨hp x hx', hx x hx'⟩
  · exact h

structure StmAt (w : World) (q : MB) (g : Geo) (bks : List (Nat × Nat)) (base : Nat) (dp : Option Addr) (dc : Nat) (s : SS) (xa xb : List Int) : Prop where
  set : SetAt w ⟨q.m, g, bks⟩ s
  disks : OwnL dLay w base 111 dp g.d.toNat dc (bks.map Prod.fst)
  mems : MemsAt w q ⟨s.pw, xa, xb⟩
def WFoot (q : MB) (g : Geo) (bks : List (Nat × Nat)) (w : World) (k : Nat) : Prop := MFoot q w k ∨ SFoot ⟨q.m, g, bks⟩ k
section plain
variable {w w1 w2 : World} {q : MB} {g : Geo} {bks : List (Nat × Nat)} {base : Nat} {dp : Option Addr} {dc : Nat} {s : SS} {xa xb : List Int}
theorem WFoot.trans (h : Keep (WFoot q g bks w) w w1) (k : Keep (WFoot q g bks w1) w1 w2) : Keep (WFoot q g bks w) w w2 :=
  h.trans' k fun i hi hf => Classical.byContradiction fun hn => by
    rcases hf with (e | e | e | ⟨hb, cs, hc⟩) | e
    · exact hn (Or.inl (Or.inl e))
    · exact hn (Or.inl (Or.inr (Or.inl e)))
    · exact hn (Or.inl (Or.inr (Or.inr (Or.inl e))))
    · exact hn (Or.inl (Or.inr (Or.inr (Or.inr ⟨hb, cs, (h.block i hi hn).symm.trans hc⟩))))
    · exact hn (Or.inr e)
theorem WFoot.none (h : Keep (fun _ => False) w w1) : Keep (WFoot q g bks w) w w1 := h.mono fun _ h => h.elim
theorem WFoot.ofM (h : Keep (MFoot q w) w w1) : Keep (WFoot q g bks w) w w1 := h.mono fun _ h => Or.inl h
theorem WFoot.ofS (h : Keep (SFoot ⟨q.m, g, bks⟩) w w1) : Keep (WFoot q g bks w) w w1 := h.mono fun _ h => Or.inr h
/-- the set and the memories share the power alone -/
theorem StmAt.share (h : StmAt w q g bks base dp dc s xa xb) {i : Nat} (hm : MFoot q w i) (hs : SFoot ⟨q.m, g, bks⟩ i) : i = q.m := by
  obtain ⟨_, _, _, _, _, _, ha, hb, _⟩ := h.mems.rams
  rcases hm with e | e | e | ⟨_, cs, hc⟩
  · exact e
  · subst e; exact absurd hs (h.set.typ ha.cells (by decide) (by decide) (by decide))
  · subst e; exact absurd hs (h.set.typ hb.cells (by decide) (by decide) (by decide))
  · exact absurd hs (h.set.typ hc (by decide) (by decide) (by decide))
theorem StmAt.keep0 (h : StmAt w q g bks base dp dc s xa xb) (k : Keep (fun _ => False) w w1) : StmAt w1 q g bks base dp dc s xa xb := ⟨h.set.keep0 k, h.disks.keep k (by simp), h.mems.keep k⟩
theorem StmAt.ofMems (h : StmAt w q g bks base dp dc s xa xb) {s' : MS} (hm : MemsAt w1 q s') (k : Keep (MFoot q w) w w1) : StmAt w1 q g bks base dp dc ⟨s.ds, s'.pw⟩ s'.xa s'.xb :=
  ⟨h.set.pow k (fun i hs hm => h.share hm hs) hm.main, MFoot.own k h.disks h.mems (by decide) (by decide) (by decide), hm⟩
theorem StmAt.ofSet (h : StmAt w q g bks base dp dc s xa xb) {s' : SS} (hs : SetAt w1 ⟨q.m, g, bks⟩ s') (k : Keep (SFoot ⟨q.m, g, bks⟩) w w1) : StmAt w1 q g bks base dp dc s' xa xb :=
  ⟨hs, h.disks.keep k fun b hb => by
    obtain ⟨_, cur, hh⟩ := own_has h.disks b 0 hb
    exact h.set.typ hh (by decide) (by decide) (by decide), h.mems.pow k (fun i hm hs => h.share hm hs) hs.main⟩
theorem WFoot.not (h : StmAt w q g bks base dp dc s xa xb) {k : Nat} {cs : Array Value} {t : TypeId} {f : Nat × Nat} (hk : Has w k (.cells cs t f)) (h1 : t ≠ 5) (h2 : t ≠ 209) (h3 : t ≠ 214) (h4 : t ≠ 220) (h5 : t ≠ 260) : ¬ WFoot q g bks w k := by
  rintro (e | e)
  · exact MFoot.not hk h.mems h1 h2 h3 e
  · exact h.set.typ hk h2 h4 h5 e
theorem WFoot.has (h : StmAt w q g bks base dp dc s xa xb) (k : Keep (WFoot q g bks w) w w1) {i : Nat} {cs : Array Value} {t : TypeId} {f : Nat × Nat} (hk : Has w i (.cells cs t f)) (h1 : t ≠ 5) (h2 : t ≠ 209) (h3 : t ≠ 214) (h4 : t ≠ 220) (h5 : t ≠ 260) : Has w1 i (.cells cs t f) :=
  k.has hk (WFoot.not h hk h1 h2 h3 h4 h5)
theorem WFoot.slt (h : StmAt w q g bks base dp dc s xa xb) (k : Keep (WFoot q g bks w) w w1) {α : Type} {L : Lay α} {t : TypeId} {p : Option Addr} {l c : Nat} {xs : List α} (ho : SlT L w t p l c xs) (h1 : t ≠ 5) (h2 : t ≠ 209) (h3 : t ≠ 214) (h4 : t ≠ 220) (h5 : t ≠ 260) : SlT L w1 t p l c xs :=
  ho.keepB k fun i cur hk => WFoot.not h hk h1 h2 h3 h4 h5
end plain

/-- a write by way of the journal: the answer, the set and the memories behind it -/
def writeM (sz : Int) (g : Geo) (fs : List Bool) (v lba : Int) (data : Sec) (ep : Int) (s : SS) (xa xb : List Int) : Int × SS × List Int × List Int :=
  if (planS g s lba data).2 ≠ 0 then ((planS g s lba data).2, s, xa, xb)
  else
    let b := beginM sz v (planS g s lba data).1 fs ⟨s.pw, xa, xb⟩
    if b.1 ≠ 0 then (b.1, ⟨s.ds, b.2.pw⟩, b.2.xa, b.2.xb)
    else
      let a := applyS g ⟨s.ds, b.2.pw⟩ (planS g s lba data).1 ep
      if a.1 ≠ 0 then (a.1, a.2, b.2.xa, b.2.xb)
      else
        let e := eachM sz (recK 5 v) fs ⟨a.2.pw, b.2.xa, b.2.xb⟩
        (e.1, ⟨a.2.ds, e.2.pw⟩, e.2.xa, e.2.xb)
section calls
variable {w : World} {q : MB} {g : Geo} {bks : List (Nat × Nat)} {base : Nat} {dp : Option Addr} {dc : Nat} {s : SS} {xa xb : List Int} {R : Value → World → Prop}
theorem zc_setW : (zc Tryz.prog 51).size = 4 := by kernel_rfl
theorem planS_len {g : Geo} {s : SS} {lba : Int} {data : Sec} : (planS g s lba data).1.length ≤ 3 := by
  unfold planS
  simp only
  split
  · simp
  · split
    · exact Nat.le_trans (List.length_filterMap_le _ _) (by simp)
    · simp
theorem i_WriteM (h : StmAt w q g bks base dp dc s xa xb) (hok : ∀ D ∈ s.ds, DskOk D) {fs : List Bool} {rp : Option Addr} {rl rc : Nat} (hr : SlT dLay w 104 rp rl rc (fs.map (ramM q))) (hrl : rl ≤ 1000000) {v lba ep : Int} (h0 : 0 ≤ lba) (h1 : lba < (g.d - 2) * g.c * g.s) {data : Sec} (hd : SecOk data)
    (hK : ∀ w', StmAt w' q g bks base dp dc (writeM q.sz g fs v lba data ep s xa xb).2.1 (writeM q.sz g fs v lba data ep s xa xb).2.2.1 (writeM q.sz g fs v lba data ep s xa xb).2.2.2 → Keep (WFoot q g bks w) w w' → R (.int .i64 (writeM q.sz g fs v lba data ep s xa xb).1) w') :
    CallV Tryz.prog 57 #[.agg (setV g dp g.d.toNat dc), .slice rp rl rc, .int .u64 v, .int .i64 lba, .agg (secV data), .int .u32 ep] w R := by
  apply C_intent_Write
  unfold F_intent_Write
  refine alc_fresh fun w1 hb1 k1 z1 => ?_
  refine alc_fresh fun w2 hb2 k2 z2 => ?_
  have k02 := k1.trans k2
  have hs2 := k2.has hb1 (by simp)
  refine LdA_all hs2 rfl ?_
  refine LdA_all hb2 rfl ?_
  have h2 := h.keep0 k02
  have hr2 := hr.keep k02 (by simp)
  refine st_Plan (q := ⟨q.m, g, bks⟩) h2.set h2.disks.sl h2.disks.cap.1 hok h0 h1 hd fun pp pc w3 o3 k3 => T2_mk.2 (OpS_slice.2 (OpI_int.2 ?_))
  have o3 : OwnL puLay w3 w2.heap.size 88 pp (planS g s lba data).1.length pc (planS g s lba data).1 := o3
  have h3 := h2.keep0 k3
  have hr3 := hr2.keep k3 (by simp)
  have k03 := k02.trans k3
  have hs3 := k3.has hs2 (by simp)
  have hlen := planS_len (g := g) (s := s) (lba := lba) (data := data)
  have p3 := SlT.of o3
  generalize hw : writeM q.sz g fs v lba data ep s xa xb = W at *
  unfold writeM at hw
  show Cb ((planS g s lba data).2 != 0) _ _
  generalize planS g s lba data = P at *
  refine Cb_of (fun hc => ?_) (fun hc => ?_)
  · have hc : P.2 ≠ 0 := by simpa using hc
    rw [if_pos hc] at hw
    subst hw
    exact Ret_nil.2 (hK w3 h3 (WFoot.none k03))
  have hc : P.2 = 0 := by simpa using hc
  rw [if_neg (by simp [hc])] at hw
  simp only at hw
  refine i_BeginM h3.mems hr3 hrl p3 fun w4 m4 k4 => OpI_int.2 ?_
  have h4 := h3.ofMems m4 k4
  have k04 : Keep (WFoot q g bks w) w w4 := WFoot.trans (WFoot.none k03) (WFoot.ofM k4)
  have hs4 := MFoot.has k4 hs3 h3.mems (by decide) (by decide) (by decide)
  have hr4 := MFoot.slt k4 hr3 h3.mems (by decide) (by decide) (by decide)
  have p4 := MFoot.slt k4 p3 h3.mems (by decide) (by decide) (by decide)
  generalize beginM q.sz v P.1 fs ⟨s.pw, xa, xb⟩ = B at *
  refine Cb_of (fun hc => ?_) (fun hc => ?_)
  · have hc : B.1 ≠ 0 := by simpa using hc
    rw [if_pos hc] at hw
    subst hw
    exact Ret_nil.2 (hK w4 h4 k04)
  have hc : B.1 = 0 := by simpa using hc
  rw [if_neg (by simp [hc])] at hw
  refine LdA_all hs4 rfl ?_
  refine st_Apply (q := ⟨q.m, g, bks⟩) h4.set h4.disks.sl h4.disks.cap.1 (fun b o e => ?_) p4.sl (by omega) (fun b o e => ?_) fun w5 s5 k5 => OpI_int.2 ?_
  · obtain ⟨_, cur, hh⟩ := own_has h4.disks b o e
    exact h4.set.typ hh (by decide) (by decide) (by decide)
  · obtain ⟨cur, hh⟩ := p4.ty _ e
    exact h4.set.typ hh (by decide) (by decide) (by decide)
  have h5 := h4.ofSet s5 k5
  have k05 := WFoot.trans k04 (WFoot.ofS k5)
  have hr5 := WFoot.slt h4 (WFoot.ofS k5) hr4 (by decide) (by decide) (by decide) (by decide) (by decide)
  have ea : applyS (SB.mk q.m g bks).g ⟨s.ds, B.2.pw⟩ P.1 ep = applyS g ⟨s.ds, B.2.pw⟩ P.1 ep := rfl
  rw [ea] at h5 s5 ⊢
  generalize applyS g ⟨s.ds, B.2.pw⟩ P.1 ep = A at *
  refine Cb_of (fun hc => ?_) (fun hc => ?_)
  · have hc : A.1 ≠ 0 := by simpa using hc
    rw [if_pos hc] at hw
    subst hw
    exact Ret_nil.2 (hK w5 h5 k05)
  have hc : A.1 = 0 := by simpa using hc
  rw [if_neg (by simp [hc])] at hw
  refine i_EndM h5.mems hr5 hrl fun w6 m6 k6 => OpI_int.2 (Ret_nil.2 ?_)
  subst hw
  exact hK w6 (h5.ofMems m6 k6) (WFoot.trans k05 (WFoot.ofM k6))
end calls
end Go.Proofs

/-
  THE JOURNAL WITH THE POWER GOING AT ANY STEP, plain: what two memories keep then, what is pending, and what the set holds.
-/
namespace Go.Proofs
open Go Go.Ev Go.RowKit
set_option linter.unusedSimpArgs false
set_option linter.unusedVariables false
set_option maxRecDepth 100000

/-! ### records in a memory -/
theorem appP_on {pw : Pow} {sz : Int} {bs : List Int} {x : Rec} (hon : pw.on = true) (hr : (bs.length : Int) + 37 ≤ sz) :
    appP pw sz bs x = if (stepP pw).1 = false then (4, (stepP pw).2, bs ++ (packB x).take 18) else (0, (stepP pw).2, bs ++ packB x) := by
  unfold appP
  rw [if_neg (by rw [hon]; decide), if_neg (by omega)]
/-- what a memory keeps: whole records, and less than one behind them -/
def KeptB (bs : List Int) (L : List Rec) : Prop := (∀ r ∈ L, RcOk r) ∧ ∃ t : List Int, t.length < 37 ∧ By t ∧ bs = L.flatMap packB ++ t
theorem KeptB.scan {bs : List Int} {L : List Rec} (h : KeptB bs L) : scanB bs = L := by
  obtain ⟨h1, t, h2, _, rfl⟩ := h
  unfold scanB
  exact scan_packs L t _ (fun r hr => h1 r hr) h2 (by rw [List.length_append, recs_len]; omega)
theorem KeptB.byb {bs : List Int} {L : List Rec} (h : KeptB bs L) : By bs := by
  obtain ⟨h1, t, _, h3, rfl⟩ := h
  intro x hx
  rcases List.mem_append.1 hx with h | h
  · exact recs_by h1 x h
  · exact h3 x h
theorem KeptB.mk {L : List Rec} (h : ∀ r ∈ L, RcOk r) : KeptB (L.flatMap packB) L := ⟨h, [], by decide, fun x hx => by simp at hx, by simp⟩
/-- just the whole records -/
def WholeB (bs : List Int) (L : List Rec) : Prop := (∀ r ∈ L, RcOk r) ∧ bs = L.flatMap packB
theorem WholeB.kept {bs : List Int} {L : List Rec} (h : WholeB bs L) : KeptB bs L := by obtain ⟨h1, rfl⟩ := h; exact KeptB.mk h1
theorem WholeB.app {bs : List Int} {L : List Rec} (h : WholeB bs L) {r : Rec} (hr : RcOk r) : WholeB (bs ++ packB r) (L ++ [r]) := by
  obtain ⟨h1, rfl⟩ := h
  refine ⟨fun x hx => ?_, by simp⟩
  rcases List.mem_append.1 hx with hx | hx
  · exact h1 x hx
  · rw [List.mem_singleton.1 hx]; exact hr
theorem WholeB.torn {bs : List Int} {L : List Rec} (h : WholeB bs L) {r : Rec} (hr : RcOk r) : KeptB (bs ++ (packB r).take 18) L := by
  obtain ⟨h1, rfl⟩ := h
  exact ⟨h1, (packB r).take 18, by rw [List.length_take]; omega, fun x hx => by_packB hr.2.2 x (List.mem_of_mem_take hx), rfl⟩
theorem WholeB.len {bs : List Int} {L : List Rec} (h : WholeB bs L) : (bs.length : Int) = 37 * (L.length : Int) := by
  obtain ⟨h1, rfl⟩ := h
  rw [recs_len]; omega
/-- records to both memories, with the power going at any step -/
theorem eachA_two {sz : Int} : ∀ (rs : List Rec) (s : MS) (A B : List Rec), (∀ r ∈ rs, RcOk r) → s.pw.on = true → WholeB s.xa A → WholeB s.xb B → 37 * ((A.length : Int) + rs.length) ≤ sz → 37 * ((B.length : Int) + rs.length) ≤ sz →
    ∃ ia ib : Nat, ia ≤ rs.length ∧ ib ≤ ia ∧ ia ≤ ib + 1 ∧ KeptB (eachA sz [false, true] rs s).2.xa (A ++ rs.take ia) ∧ KeptB (eachA sz [false, true] rs s).2.xb (B ++ rs.take ib) ∧
      (((eachA sz [false, true] rs s).1 = 0 ∧ ib = rs.length ∧ (eachA sz [false, true] rs s).2.pw.on = true ∧ WholeB (eachA sz [false, true] rs s).2.xa (A ++ rs) ∧ WholeB (eachA sz [false, true] rs s).2.xb (B ++ rs)) ∨
       ((eachA sz [false, true] rs s).1 = 4 ∧ (eachA sz [false, true] rs s).2.pw.on = false ∧ ib < rs.length)) ∧
      (s.pw.left = 0 → (eachA sz [false, true] rs s).1 = 0 ∧ (eachA sz [false, true] rs s).2.pw.left = 0)
  | [], s, A, B, _, hon, hA, hB, _, _ => ⟨0, 0, by simp, by omega, by omega, by simpa [eachA] using hA.kept, by simpa [eachA] using hB.kept, Or.inl ⟨rfl, rfl, hon, by simpa [eachA] using hA, by simpa [eachA] using hB⟩, fun h => ⟨rfl, h⟩⟩
  | r :: rs, s, A, B, hrs, hon, hA, hB, hsa, hsb => by
    have hr := hrs r (by simp)
    have hla := hA.len
    have hlb := hB.len
    have hlen : ((r :: rs).length : Int) = (rs.length : Int) + 1 := by simp
    rw [hlen] at hsa hsb
    have h1 := appP_on (sz := sz) (x := r) (bs := s.xa) hon (by omega)
    have hso := step_on hon
    rw [eachA_step]
    have e1 : eachM sz r [false, true] s = if (appP s.pw sz s.xa r).1 ≠ 0 then ((appP s.pw sz s.xa r).1, ⟨(appP s.pw sz s.xa r).2.1, (appP s.pw sz s.xa r).2.2, s.xb⟩)
        else if (appP (appP s.pw sz s.xa r).2.1 sz s.xb r).1 ≠ 0 then ((appP (appP s.pw sz s.xa r).2.1 sz s.xb r).1, ⟨(appP (appP s.pw sz s.xa r).2.1 sz s.xb r).2.1, (appP s.pw sz s.xa r).2.2, (appP (appP s.pw sz s.xa r).2.1 sz s.xb r).2.2⟩)
        else (0, ⟨(appP (appP s.pw sz s.xa r).2.1 sz s.xb r).2.1, (appP s.pw sz s.xa r).2.2, (appP (appP s.pw sz s.xa r).2.1 sz s.xb r).2.2⟩) := rfl
    cases hst : (stepP s.pw).1 with
    | false =>
      rw [hst, if_pos rfl] at h1
      have e2 : eachM sz r [false, true] s = (4, ⟨(stepP s.pw).2, s.xa ++ (packB r).take 18, s.xb⟩) := by rw [e1, h1]; rfl
      rw [e2, if_pos (show (4 : Int) ≠ 0 by decide)]
      refine ⟨0, 0, by omega, by omega, by omega, by simpa using hA.torn hr, by simpa using hB.kept, Or.inr ⟨rfl, by rw [hso]; exact hst, by simp⟩, fun h0 => ?_⟩
      rw [(step_lit hon h0).1] at hst; cases hst
    | true =>
      rw [hst, if_neg (by decide)] at h1
      have hon1 : (stepP s.pw).2.on = true := by rw [hso]; exact hst
      have h2 := appP_on (sz := sz) (x := r) (bs := s.xb) hon1 (by omega)
      have hso2 := step_on hon1
      have hA1 := hA.app hr
      cases hst2 : (stepP (stepP s.pw).2).1 with
      | false =>
        rw [hst2, if_pos rfl] at h2
        have e2 : eachM sz r [false, true] s = (4, ⟨(stepP (stepP s.pw).2).2, s.xa ++ packB r, s.xb ++ (packB r).take 18⟩) := by
          rw [e1, h1]
          show (if (0 : Int) ≠ 0 then _ else if (appP (stepP s.pw).2 sz s.xb r).1 ≠ 0 then _ else _) = _
          rw [if_neg (by decide), h2]
          rfl
        rw [e2, if_pos (show (4 : Int) ≠ 0 by decide)]
        refine ⟨1, 0, by simp, by omega, by omega, by simpa using hA1.kept, by simpa using hB.torn hr, Or.inr ⟨rfl, by rw [hso2]; exact hst2, by simp⟩, fun h0 => ?_⟩
        have := step_lit hon h0
        rw [(step_lit hon1 this.2).1] at hst2; cases hst2
      | true =>
        rw [hst2, if_neg (by decide)] at h2
        have hon2 : (stepP (stepP s.pw).2).2.on = true := by rw [hso2]; exact hst2
        have hB1 := hB.app hr
        have e2 : eachM sz r [false, true] s = (0, ⟨(stepP (stepP s.pw).2).2, s.xa ++ packB r, s.xb ++ packB r⟩) := by
          rw [e1, h1]
          show (if (0 : Int) ≠ 0 then _ else if (appP (stepP s.pw).2 sz s.xb r).1 ≠ 0 then _ else _) = _
          rw [if_neg (by decide), h2]
          rfl
        rw [e2, if_neg (show ¬ (0 : Int) ≠ 0 by decide)]
        simp only
        obtain ⟨ia, ib, a1, a2, a3, a4, a5, a6, a7⟩ := eachA_two (sz := sz) rs ⟨(stepP (stepP s.pw).2).2, s.xa ++ packB r, s.xb ++ packB r⟩ (A ++ [r]) (B ++ [r]) (fun x hx => hrs x (by simp [hx])) hon2 hA1 hB1 (by simp; omega) (by simp; omega)
        refine ⟨ia + 1, ib + 1, by simpa using a1, by omega, by omega, by rw [List.take_succ_cons]; simpa using a4, by rw [List.take_succ_cons]; simpa using a5, ?_, fun h0 => a7 ?_⟩
        · rcases a6 with ⟨b1, b2, b3, b4, b5⟩ | ⟨b1, b2, b3⟩
          · exact Or.inl ⟨b1, by simp [b2], b3, by simpa using b4, by simpa using b5⟩
          · exact Or.inr ⟨b1, b2, by simpa using b3⟩
        · have := step_lit hon h0
          exact (step_lit hon1 this.2).2

/-! ### what is pending -/
theorem gList_skip {D : List Rec} {G : List (Int × List PutS)} : ∀ (xs pre : List Rec), (∀ x ∈ xs, x.kind = 4 → doneV D x.ver = true ∨ mlook G x.ver ≠ none) → gList D pre xs G = G
  | [], _, _ => rfl
  | x :: xs, pre, h => by
    have e : gStep D pre x G = G := by
      unfold gStep
      rw [if_neg]
      rintro ⟨h1, h2, h3⟩
      rcases h x (by simp) h1 with h | h
      · rw [h2] at h; cases h
      · exact h h3
    show gList D (pre ++ [x]) xs (gStep D pre x G) = G
    rw [e]
    exact gList_skip xs _ fun y hy => h y (by simp [hy])
theorem gList_append {D : List Rec} : ∀ (xs ys pre : List Rec) (G : List (Int × List PutS)), gList D pre (xs ++ ys) G = gList D (pre ++ xs) ys (gList D pre xs G)
  | [], ys, pre, G => by simp [gList]
  | x :: xs, ys, pre, G => by
    show gList D (pre ++ [x]) (xs ++ ys) (gStep D pre x G) = _
    rw [gList_append xs ys]
    simp [gList]
theorem pendS_nil {LL : List (List Rec)} (h : pendG LL = []) : pendS LL = [] := by unfold pendS; rw [h]; simp [sortU]
theorem pendS_one {LL : List (List Rec)} {v : Int} {ps : List PutS} (h : pendG LL = [(v, ps)]) : pendS LL = ps := by
  unfold pendS
  rw [h]
  simp [sortU, mlook]
/-- a journal that speaks of another version that is done, and of this one -/
structure OldR (R1 : List Rec) (v : Int) : Prop where
  ok : ∀ r ∈ R1, RcOk r
  done : ∀ r ∈ R1, r.kind = 4 → ∃ x ∈ R1, x.kind = 5 ∧ x.ver = r.ver
  ver : ∀ r ∈ R1, r.ver ≠ v
theorem doneV_mem {D : List Rec} {v : Int} : doneV D v = true ↔ ∃ x ∈ D, x.kind = 5 ∧ x.ver = v := by
  unfold doneV
  rw [List.any_eq_true]
  constructor
  · rintro ⟨x, h1, h2⟩
    simp only [Bool.and_eq_true, beq_iff_eq] at h2
    exact ⟨x, h1, h2⟩
  · rintro ⟨x, h1, h2⟩
    exact ⟨x, h1, by simp only [Bool.and_eq_true, beq_iff_eq]; exact h2⟩
theorem kind_recI {v : Int} {x : PutS} : (recI v x).kind = 3 := rfl
def recsW (v : Int) (P : List PutS) : List Rec := recsI v P ++ [recK 5 v]
theorem recsW_len (v : Int) (P : List PutS) : (recsW v P).length = P.length + 2 := by unfold recsW recsI; simp
theorem recsW_at {v : Int} {P : List PutS} {r : Rec} {k : Nat} (h : (recsW v P)[k]? = some r) : r.ver = v ∧ (r.kind = 4 → k = P.length) ∧ (r.kind = 5 → k = P.length + 1) := by
  unfold recsW recsI at h
  by_cases h1 : k < P.length
  · rw [List.getElem?_append_left (by simp; omega), List.getElem?_append_left (by simpa using h1), List.getElem?_map] at h
    cases hp : P[k]? with
    | none => rw [hp] at h; cases h
    | some x =>
      rw [hp] at h
      cases h
      exact ⟨rfl, fun e => absurd (show (3 : Int) = 4 from e) (by decide), fun e => absurd (show (3 : Int) = 5 from e) (by decide)⟩
  · by_cases h2 : k = P.length
    · subst h2
      rw [List.getElem?_append_left (by simp), List.getElem?_append_right (by simp)] at h
      simp at h
      subst h
      exact ⟨rfl, fun _ => rfl, fun e => absurd (show (4 : Int) = 5 from e) (by decide)⟩
    · rw [List.getElem?_append_right (by simp; omega)] at h
      have hk := (List.getElem?_eq_some_iff.1 h).1
      simp at hk
      have : k = P.length + 1 := by omega
      subst this
      simp at h
      subst h
      exact ⟨rfl, fun e => absurd (show (5 : Int) = 4 from e) (by decide), fun _ => rfl⟩
theorem mem_take_at {α : Type} {l : List α} {n : Nat} {x : α} (h : x ∈ l.take n) : ∃ k, k < n ∧ l[k]? = some x := by
  obtain ⟨k, hk⟩ := List.mem_iff_getElem?.1 h
  have hk2 := (List.getElem?_eq_some_iff.1 hk).1
  rw [List.length_take] at hk2
  refine ⟨k, by omega, ?_⟩
  rw [List.getElem?_take_of_lt (by omega)] at hk
  exact hk
theorem grp_other {v : Int} {rs : List Rec} (h : ∀ r ∈ rs, r.ver ≠ v) : grp v rs = [] := by
  unfold grp
  have : rs.filter (isI v) = [] := by
    rw [List.filter_eq_nil_iff]
    intro r hr
    have := h r hr
    simp [isI, this]
  rw [this]; rfl
theorem grp_append {v : Int} (a b : List Rec) : grp v (a ++ b) = grp v a ++ grp v b := by unfold grp; simp
theorem pend_two {R1 : List Rec} {v : Int} (hR : OldR R1 v) {P : List PutS} (hP : ∀ x ∈ P, InR x) {ia ib : Nat} (h1 : ia ≤ P.length + 2) (h2 : ib ≤ ia) :
    pendS [R1 ++ (recsW v P).take ia, R1 ++ (recsW v P).take ib] = (if ia = P.length + 1 then P.map sealP else []) ∧ (pendG [R1 ++ (recsW v P).take ia, R1 ++ (recsW v P).take ib]).length ≤ 1 := by
  generalize hLL : [R1 ++ (recsW v P).take ia, R1 ++ (recsW v P).take ib] = LL
  have hfl : LL.flatten = (R1 ++ (recsW v P).take ia) ++ (R1 ++ (recsW v P).take ib) := by rw [← hLL]; simp
  have hD1 : ∀ r ∈ R1, r.kind = 4 → doneV LL.flatten r.ver = true := fun r hr h4 => by
    obtain ⟨x, hx, h5, hv⟩ := hR.done r hr h4
    exact doneV_mem.2 ⟨x, by rw [hfl]; simp [hx], h5, hv⟩
  have hG : pendG LL = gList LL.flatten [] (R1 ++ (recsW v P).take ib) (gList LL.flatten [] (R1 ++ (recsW v P).take ia) []) := by
    unfold pendG
    generalize LL.flatten = D
    rw [← hLL]
    rfl
  by_cases hia : ia = P.length + 1
  · rw [if_pos hia]
    have hdn : doneV LL.flatten v = false := by
      cases hd : doneV LL.flatten v
      · rfl
      · obtain ⟨x, hx, h5, hv⟩ := doneV_mem.1 hd
        rw [hfl] at hx
        have hx' : x ∈ R1 ∨ x ∈ (recsW v P).take ia ∨ x ∈ (recsW v P).take ib := by
          simp only [List.mem_append] at hx
          rcases hx with (h | h) | (h | h)
          · exact Or.inl h
          · exact Or.inr (Or.inl h)
          · exact Or.inl h
          · exact Or.inr (Or.inr h)
        rcases hx' with h | h | h
        · exact absurd hv (hR.ver x h)
        · obtain ⟨k, hk, he⟩ := mem_take_at h
          have := (recsW_at he).2.2 h5
          omega
        · obtain ⟨k, hk, he⟩ := mem_take_at h
          have := (recsW_at he).2.2 h5
          omega
    have hsplit : R1 ++ (recsW v P).take ia = (R1 ++ P.map (recI v)) ++ [recK 4 v] := by
      rw [hia]
      unfold recsW recsI
      rw [List.take_left' (by simp), List.append_assoc]
    have g1 : gList LL.flatten [] (R1 ++ (recsW v P).take ia) [] = [(v, P.map sealP)] := by
      rw [hsplit, gList_append, gList_skip (R1 ++ P.map (recI v)) []]
      · show gStep LL.flatten ([] ++ (R1 ++ P.map (recI v))) (recK 4 v) [] = _
        unfold gStep
        rw [if_pos ⟨rfl, hdn, rfl⟩, ins_new rfl, List.nil_append, List.nil_append]
        show [(v, grp v (R1 ++ P.map (recI v)))] = _
        rw [grp_append, grp_other hR.ver, List.nil_append, grp_recI hP]
      · intro x hx h4
        rcases List.mem_append.1 hx with hx | hx
        · exact Or.inl (hD1 x hx h4)
        · obtain ⟨y, _, rfl⟩ := List.mem_map.1 hx
          exact absurd (show (3 : Int) = 4 from h4) (by decide)
    have g2 : pendG LL = [(v, P.map sealP)] := by
      rw [hG, g1, gList_skip]
      intro x hx h4
      rcases List.mem_append.1 hx with hx | hx
      · exact Or.inl (hD1 x hx h4)
      · obtain ⟨k, hk, he⟩ := mem_take_at hx
        right
        rw [(recsW_at he).1]
        simp [mlook]
    exact ⟨pendS_one g2, by rw [g2]; simp⟩
  · rw [if_neg hia]
    have skip : ∀ i, i ≤ ia → ∀ x ∈ R1 ++ (recsW v P).take i, x.kind = 4 → doneV LL.flatten x.ver = true ∨ mlook ([] : List (Int × List PutS)) x.ver ≠ none := by
      intro i hi x hx h4
      left
      rcases List.mem_append.1 hx with hx | hx
      · exact hD1 x hx h4
      · obtain ⟨k, hk, he⟩ := mem_take_at hx
        obtain ⟨e1, e2, _⟩ := recsW_at he
        have e2 := e2 h4
        have : ia = P.length + 2 := by omega
        rw [e1]
        refine doneV_mem.2 ⟨recK 5 v, ?_, rfl, rfl⟩
        rw [hfl]
        have : recK 5 v ∈ (recsW v P).take ia := by
          rw [List.take_of_length_le (by rw [recsW_len]; omega)]
          unfold recsW
          simp
        simp [this]
    have g2 : pendG LL = [] := by
      rw [hG, gList_skip _ _ (skip ia (Nat.le_refl _)), gList_skip _ _ (skip ib h2)]
    exact ⟨pendS_nil g2, by rw [g2]; simp⟩

/-! ### a write with the power going at any step -/
theorem planS_seal {g : Geo} {s : SS} (hs : SsOk g s) {now : Int → Sec} (hi : Inv g s now) (hn : ∀ l, SecOk (now l)) (hon : s.pw.on = true) {lba : Int} (h0 : 0 ≤ lba) (h1 : lba < (g.d - 2) * g.c * g.s) {data : Sec} (hd : SecOk data) (hlost : lostN (colsS g s (spotP g lba).1 (spotP g lba).2.2) ≤ 2) :
    (planS g s lba data).2 = 0 ∧ ∀ x ∈ (planS g s lba data).1, Sealed g s x ∧ sealP x = x := by
  have hg := hs.geo
  obtain ⟨pst, pco, pof⟩ := spotP_ok hg h0 h1
  have hrow := hi.rowR hg hn pst pof hlost
  have hplan : planS g s lba data = (planL g s (spotP g lba).1 (spotP g lba).2.2 (rowW (Go.Proofs.rowR (colsS g s (spotP g lba).1 (spotP g lba).2.2)) (spotP g lba).2.1.toNat data) [(spotP g lba).2.1, g.d - 2, g.d - 1], 0) := by
    unfold planS
    simp only
    rw [if_neg (by rw [hon]; decide), if_pos hlost]
  rw [hplan, hrow]
  have hd' := hg.d
  have hls := lbaP_spot hg lba
  generalize spotP g lba = x at *
  rw [rowW_full (by rw [len_rowT]; omega), ← rowT_upd_same hg pst.1 pof pco, hls]
  refine ⟨rfl, fun y hy => ?_⟩
  have hfull := fullT_ok (rowT_ok (g := g) (upd_ok hn hd lba) x.1 x.2.2)
  have hpo := planL_ok hg pst pof y hy
  unfold planL at hy
  obtain ⟨k, hk, hyk⟩ := List.mem_filterMap.1 hy
  unfold planK at hyk
  split at hyk
  · cases hyk
  · rename_i hal
    cases hyk
    refine ⟨⟨hpo, ?_, rfl, ?_⟩, rfl⟩
    · show SecOk ((fullT (rowT g (upd now lba data) x.1 x.2.2)).getD k.toNat (sec []))
      rw [List.getD_eq_getElem?_getD]
      cases hx : (fullT (rowT g (upd now lba data) x.1 x.2.2))[k.toNat]? with
      | none => exact sec0_ok
      | some f => exact hfull f (List.mem_of_getElem? hx)
    · unfold deadS
      show (s.ds.getD (plcP g x.1 x.2.2 k).dk.toNat dsk0).dead = false
      simpa using hal
theorem seal_inR {g : Geo} {s : SS} {x : PutS} (hg : GeoOk g) (h : Sealed g s x) : InR x := by
  obtain ⟨⟨⟨a1, a2⟩, a3, a4⟩, _⟩ := h
  have h1 := hg.d
  have h2 := hg.c
  have h3 := hg.s
  have : g.c * g.s ≤ 8 * 64 := Int.mul_le_mul h2.2 h3.2 (by omega) (by omega)
  exact ⟨⟨a1, by omega⟩, a3, by omega⟩
/-- how things stand behind a write by way of the journal, whatever the power did -/
structure AfterW (g : Geo) (R1 : List Rec) (v : Int) (P : List PutS) (s1 s2 : SS) (e : Int) (xa xb : List Int) : Prop where
  cut : ∃ ia ib j : Nat, ia ≤ P.length + 2 ∧ ib ≤ ia ∧ j ≤ P.length ∧ KeptB xa (R1 ++ (recsW v P).take ia) ∧ KeptB xb (R1 ++ (recsW v P).take ib) ∧ CutS g s1 s2 (P.take j) ∧ (ia ≤ P.length → j = 0) ∧ (ia = P.length + 2 → j = P.length) ∧ (e = 0 → ia = P.length + 2)
theorem recsW_ok {v : Int} (hv : 0 ≤ v ∧ v ≤ 18446744073709551615) {P : List PutS} (h : ∀ x ∈ P, InR x ∧ SecOk x.cel.data) : ∀ r ∈ recsW v P, RcOk r := fun r hr => by
  unfold recsW at hr
  rcases List.mem_append.1 hr with hr | hr
  · exact recsI_ok hv h r hr
  · rw [List.mem_singleton.1 hr]
    exact ⟨rfl, hv, sec0_okI⟩
theorem badPut_in {x : PutS} (h : InR x) : badPut x = false := by
  obtain ⟨⟨a1, a2⟩, a3, a4⟩ := h
  unfold badPut
  rw [decide_eq_false (by omega), decide_eq_false (by omega), decide_eq_false (by omega), decide_eq_false (by omega)]
  rfl
theorem writeM_two {g : Geo} {s1 : SS} (hs : SsOk g s1) {now : Int → Sec} (hi : Inv g s1 now) (hn : ∀ l, SecOk (now l)) (hon : s1.pw.on = true) {lba : Int} (h0 : 0 ≤ lba) (h1 : lba < (g.d - 2) * g.c * g.s) {data : Sec} (hd : SecOk data)
    (hlost : lostN (colsS g s1 (spotP g lba).1 (spotP g lba).2.2) ≤ 2) {ep : Int} (hep : ∀ i : Nat, (s1.ds.getD i dsk0).key ≤ ep) {R1 : List Rec} {v : Int} (hv : 0 ≤ v ∧ v ≤ 18446744073709551615) {xa xb : List Int} (hA : WholeB xa R1) (hB : WholeB xb R1) {sz : Int} (hsz : 37 * ((R1.length : Int) + 5) ≤ sz) :
    AfterW g R1 v (planS g s1 lba data).1 s1 (writeM sz g [false, true] v lba data ep s1 xa xb).2.1 (writeM sz g [false, true] v lba data ep s1 xa xb).1 (writeM sz g [false, true] v lba data ep s1 xa xb).2.2.1 (writeM sz g [false, true] v lba data ep s1 xa xb).2.2.2 ∧
    (s1.pw.left = 0 → (writeM sz g [false, true] v lba data ep s1 xa xb).1 = 0 ∧ (writeM sz g [false, true] v lba data ep s1 xa xb).2.1.pw.on = true ∧ (writeM sz g [false, true] v lba data ep s1 xa xb).2.1.pw.left = 0 ∧
      WholeB (writeM sz g [false, true] v lba data ep s1 xa xb).2.2.1 (R1 ++ recsW v (planS g s1 lba data).1) ∧ WholeB (writeM sz g [false, true] v lba data ep s1 xa xb).2.2.2 (R1 ++ recsW v (planS g s1 lba data).1)) := by
  obtain ⟨hp2, hps⟩ := planS_seal hs hi hn hon h0 h1 hd hlost
  have hlen := planS_len (g := g) (s := s1) (lba := lba) (data := data)
  generalize hW : writeM sz g [false, true] v lba data ep s1 xa xb = W
  unfold writeM at hW
  rw [if_neg (by simp [hp2])] at hW
  simp only at hW
  generalize (planS g s1 lba data).1 = P at *
  have hin : ∀ x ∈ P, InR x := fun x hx => seal_inR hs.geo (hps x hx).1
  have hnb : P.any badPut = false := by
    rw [List.any_eq_false]
    intro x hx
    rw [badPut_in (hin x hx)]; decide
  have hrok := recsW_ok hv fun x hx => ⟨hin x hx, (hps x hx).1.2.1⟩
  have hbg : beginM sz v P [false, true] ⟨s1.pw, xa, xb⟩ = eachA sz [false, true] (recsI v P) ⟨s1.pw, xa, xb⟩ := by
    unfold beginM
    rw [if_neg (by rw [hnb]; decide)]
    rfl
  rw [hbg] at hW
  have hil : (recsI v P).length = P.length + 1 := by unfold recsI; simp
  obtain ⟨ia, ib, a1, a2, a3, a4, a5, a6, a7⟩ := eachA_two (sz := sz) (recsI v P) ⟨s1.pw, xa, xb⟩ R1 R1 (fun r hr => hrok r (by unfold recsW; simp [hr])) hon hA hB (by rw [hil]; omega) (by rw [hil]; omega)
  have htk : ∀ i, i ≤ P.length + 1 → (recsI v P).take i = (recsW v P).take i := fun i hi => by
    unfold recsW
    rw [List.take_append_of_le_length (by rw [hil]; exact hi)]
  rw [hil] at a1
  generalize eachA sz [false, true] (recsI v P) ⟨s1.pw, xa, xb⟩ = B at *
  rcases a6 with ⟨b1, b2, b3, b4, b5⟩ | ⟨b1, b2, b3⟩
  · rw [if_neg (by simp [b1])] at hW
    rw [hil] at b2
    have hs1' : SsOk g ⟨s1.ds, B.2.pw⟩ := ⟨hs.geo, hs.num, hs.len, hs.ok⟩
    obtain ⟨j, c1, c2, c3, c4⟩ := applyS_cut (ep := ep) (xs := P) hs1' b3 (fun x hx => (hps x hx).1) hep
    have c2' : CutS g s1 (applyS g ⟨s1.ds, B.2.pw⟩ P ep).2 (P.take j) := ⟨c2.ss, c2.dead, c2.key, c2.view⟩
    have hia : ia = P.length + 1 := by omega
    generalize applyS g ⟨s1.ds, B.2.pw⟩ P ep = A at *
    rcases c3 with ⟨d1, d2, d3⟩ | ⟨d1, d2⟩
    · rw [if_neg (by simp [d1])] at hW
      obtain ⟨ja, jb, e1, e2, e3, e4, e5, e6, e7⟩ := eachA_two (sz := sz) [recK 5 v] ⟨A.2.pw, B.2.xa, B.2.xb⟩ (R1 ++ recsI v P) (R1 ++ recsI v P) (fun r hr => hrok r (by unfold recsW; simp [List.mem_singleton.1 hr])) d3 b4 b5 (by simp [hil]; omega) (by simp [hil]; omega)
      have e8 : eachA sz [false, true] [recK 5 v] ⟨A.2.pw, B.2.xa, B.2.xb⟩ = eachM sz (recK 5 v) [false, true] ⟨A.2.pw, B.2.xa, B.2.xb⟩ := by
        show (if _ then _ else _) = _
        split
        · rfl
        · rename_i hz
          have hz : (eachM sz (recK 5 v) [false, true] ⟨A.2.pw, B.2.xa, B.2.xb⟩).1 = 0 := by simpa using hz
          show (0, (eachM sz (recK 5 v) [false, true] ⟨A.2.pw, B.2.xa, B.2.xb⟩).2) = _
          rw [← hz]
      rw [← e8] at hW
      have happ : ∀ i, i ≤ 1 → (R1 ++ recsI v P) ++ [recK 5 v].take i = R1 ++ (recsW v P).take (P.length + 1 + i) := fun i hi => by
        have e1 : (recsI v P ++ [recK 5 v]).take (P.length + 1 + i) = recsI v P ++ [recK 5 v].take i := by
          rw [List.take_append (l₁ := recsI v P) (l₂ := [recK 5 v]), List.take_of_length_le (l := recsI v P) (by rw [hil]; omega), hil]
          congr 2
          omega
        unfold recsW
        rw [List.append_assoc, e1]
      generalize eachA sz [false, true] [recK 5 v] ⟨A.2.pw, B.2.xa, B.2.xb⟩ = E at *
      subst hW
      have e1' : ja ≤ 1 := by simpa using e1
      rw [happ ja e1'] at e4
      rw [happ jb (by omega)] at e5
      subst d2
      refine ⟨⟨⟨P.length + 1 + ja, P.length + 1 + jb, P.length, by omega, by omega, by omega, e4, e5, ⟨c2'.ss.geo, c2'.ss.num, c2'.ss.len, c2'.ss.ok⟩ |> fun hh => ⟨hh, c2'.dead, c2'.key, c2'.view⟩, by omega, by omega, fun he => ?_⟩⟩, fun h0 => ?_⟩
      · have he : E.1 = 0 := he
        rcases e6 with ⟨f1, f2, _⟩ | ⟨f1, _⟩
        · have f2 : jb = 1 := by simpa using f2
          omega
        · rw [f1] at he; cases he
      · obtain ⟨_, g2⟩ := a7 h0
        obtain ⟨_, g3⟩ := c4 g2
        obtain ⟨g4, g5⟩ := e7 g3
        rcases e6 with ⟨f1, f2, f3, f4, f5⟩ | ⟨f1, _⟩
        · refine ⟨g4, f3, g5, ?_, ?_⟩
          · have : R1 ++ recsW v P = (R1 ++ recsI v P) ++ [recK 5 v] := by unfold recsW; simp
            rw [this]; exact f4
          · have : R1 ++ recsW v P = (R1 ++ recsI v P) ++ [recK 5 v] := by unfold recsW; simp
            rw [this]; exact f5
        · rw [f1] at g4; cases g4
    · rw [if_pos (by rw [d1]; decide)] at hW
      subst hW
      rw [htk ia (by omega)] at a4
      rw [htk ib (by omega)] at a5
      refine ⟨⟨⟨ia, ib, j, by omega, a2, c1, a4, a5, c2', by omega, by omega, fun he => ?_⟩⟩, fun h0 => ?_⟩
      · rw [d1] at he; cases he
      · obtain ⟨_, g2⟩ := a7 h0
        obtain ⟨g3, _⟩ := c4 g2
        rw [d1] at g3; cases g3
  · rw [if_pos (by rw [b1]; decide)] at hW
    subst hW
    rw [htk ia (by omega)] at a4
    rw [htk ib (by omega)] at a5
    refine ⟨⟨⟨ia, ib, 0, by omega, a2, by omega, a4, a5, ⟨⟨hs.geo, hs.num, hs.len, hs.ok⟩, fun _ => rfl, fun _ => rfl, fun _ _ _ _ => rfl⟩, fun _ => rfl, by omega, fun he => ?_⟩⟩, fun h0 => ?_⟩
    · rw [b1] at he; cases he
    · obtain ⟨g2, _⟩ := a7 h0
      rw [b1] at g2; cases g2
end Go.Proofs

/- PRINTED BY pr.py (own program): what the evaluator of <Name>Ev makes of the code of some functions. -/
namespace Go.Proofs
open Go.Ev
set_option linter.unusedVariables false
set_option maxRecDepth 100000
def F_ravelinlaw10_IntentWhole (a : Int) (b : Int) (lba : Int) (old : Array Value) (now : Array Value) (cut : Int) (again : Int) (dead : Int) (fail : Bool) (w : World) (R : Value → World → Prop) : Prop :=
  Alc 37 old w fun b1 w => Alc 37 now w fun b2 w => Req ((3 : Int) ≠ 0) (Req ((2 : Int) ≠ 0) (DoQ Tryz.prog (Instr.build 24 #[(0, .int .i64 (IntKind.wrap .i64 ((IntKind.wrap
  .i64 (Int.tmod a 3)) + 4))), (1, .int .i64 (IntKind.wrap .i64 ((IntKind.wrap .i64 (Int.tmod b 2)) + 1))), (2, .int .i64 2)]) (At w) fun v => OpA 3 v fun cs => Alc 24 (zc
  Tryz.prog 24) w fun b3 w => StA 3 b3 0 cs w fun w => CallV Tryz.prog 52 #[] w fun v1 w => OpN v1 fun b4 o => LdA 3 b3 0 (At w) fun cs1 => CallV Tryz.prog 53 #[.agg cs1,
  .pointer (some ⟨b4, o, none⟩)] w fun v2 w => T2 v2 fun v3 v4 => OpA 4 v3 fun cs2 => OpI .i64 v4 fun n => Alc 51 (zc Tryz.prog 51) w fun b5 w => StA 4 b5 0 cs2 w fun w =>
  CallV Tryz.prog 54 #[.int .i64 4000, .pointer (some ⟨b4, o, none⟩)] w fun v5 w => T2 v5 fun v6 v7 => OpN v6 fun b6 o1 => OpI .i64 v7 fun n1 => CallV Tryz.prog 54 #[.int
  .i64 4000, .pointer (some ⟨b4, o, none⟩)] w fun v8 w => T2 v8 fun v9 v10 => OpN v9 fun b7 o2 => OpI .i64 v10 fun n2 => CallV Tryz.prog 55 #[] w fun v11 w => OpB v11 fun g
  => Req ((!g) = (!g)) (Req ((!g) = (!g)) (Req ((cond (!g) true (n != 0)) = (cond (!g) true (n != 0))) (Req ((cond (!g) true (n != 0)) = (cond (!g) true (n != 0))) (Req
  ((cond (cond (!g) true (n != 0)) true (n1 != 0)) = (cond (cond (!g) true (n != 0)) true (n1 != 0))) (Req ((cond (cond (!g) true (n != 0)) true (n1 != 0)) = (cond (cond
  (!g) true (n != 0)) true (n1 != 0))) (Cb (cond (cond (cond (!g) true (n != 0)) true (n1 != 0)) true (n2 != 0)) (Ret [] (R (.bool false) w)) (LdV b5 3 (At w) fun v12 => OpS
  v12 fun p l c => LdV b3 0 (At w) fun v13 => OpI .i64 v13 fun n3 => Cb (((l : Nat) : Int) != n3) (Ret [] (R (.bool false) w)) (LdA 3 b3 0 (At w) fun cs3 => CallV Tryz.prog
  56 #[.agg cs3] w fun v14 w => T2 v14 fun v15 v16 => OpI .i64 v15 fun n4 => OpI .i64 v16 fun n5 => Req (n4 ≠ 0) (DoV Tryz.prog (Instr.buildSlice 109 2 #[(0, .pointer (some
  ⟨b6, o1, none⟩)), (1, .pointer (some ⟨b7, o2, none⟩))]) w fun v17 w => OpS v17 fun p1 l1 c1 => LdA 4 b5 0 (At w) fun cs4 => LdA 16 b1 0 (At w) fun cs5 => CallV Tryz.prog
  57 #[.agg cs4, .slice p1 l1 c1, .int .u64 1, .int .i64 (Int.tmod (IntKind.wrap .i64 lba) n4), .agg cs5, .int .u32 0] w fun v18 w => OpI .i64 v18 fun n6 => Cb (n6 != 0)
  (Ret [] (R (.bool false) w)) (JoinC (σ := Unit) (fun J1 => Cb fail (HeldR w fun S w => LdV b5 3 S fun v19 => OpS v19 fun p2 l2 c2 => LdV b3 0 S fun v20 => OpI .i64 v20 fun
  n7 => Req (n7 ≠ 0) (IdxS p2 l2 (Int.tmod (IntKind.wrap .i64 dead) n7) 1 fun b8 o3 => LdV b8 o3 (At w) fun v21 => OpN v21 fun b9 o4 => CallV Tryz.prog 58 #[.pointer (some
  ⟨b9, o4, none⟩)] w fun v22 w => Hld (S w) (J1 () w))) (J1 () w)) (fun _ s1 w => Req ((24 : Int) ≠ 0) (CallV Tryz.prog 59 #[.pointer (some ⟨b4, o, none⟩), .int .i64
  (Int.tmod (IntKind.wrap .i64 cut) 24)] w fun v23 w => OpI .i64 v23 fun n8 => Cb (n8 != 0) (Ret [] (R (.bool false) w)) (LdA 4 b5 0 (At w) fun cs6 => LdA 16 b2 0 (At w) fun
  cs7 => CallV Tryz.prog 57 #[.agg cs6, .slice p1 l1 c1, .int .u64 2, .int .i64 (Int.tmod (IntKind.wrap .i64 lba) n4), .agg cs7, .int .u32 0] w fun v24 w => OpI .i64 v24 fun
  n9 => CallV Tryz.prog 60 #[.pointer (some ⟨b4, o, none⟩)] w fun v25 w => Req ((5 : Int) ≠ 0) (CallV Tryz.prog 59 #[.pointer (some ⟨b4, o, none⟩), .int .i64 (Int.tmod
  (IntKind.wrap .i64 again) 5)] w fun v26 w => OpI .i64 v26 fun n10 => JoinC (σ := Unit) (fun J2 => HeldR w fun S w => LdA 4 b5 0 S fun cs8 => CallV Tryz.prog 62 #[.pointer
  (some ⟨b6, o1, none⟩)] w fun v27 w => OpS v27 fun p3 l3 c3 => Hld (S w) (CallV Tryz.prog 62 #[.pointer (some ⟨b7, o2, none⟩)] w fun v28 w => OpS v28 fun p4 l4 c4 => Hld (S
  w) (DoV Tryz.prog (Instr.buildSlice 158 2 #[(0, .slice p3 l3 c3), (1, .slice p4 l4 c4)]) w fun v29 w => OpS v29 fun p5 l5 c5 => Hld (S w) (CallV Tryz.prog 61 #[.agg cs8,
  .int .u32 0, .slice p5 l5 c5] w fun v30 w => OpI .i64 v30 fun n11 => Hld (S w) (J2 () w))))) (fun _ s2 w => CallV Tryz.prog 60 #[.pointer (some ⟨b4, o, none⟩)] w fun v31 w
  => JoinC (σ := Bool × Unit) (fun J3 => HeldR w fun S w => LdA 4 b5 0 S fun cs9 => CallV Tryz.prog 62 #[.pointer (some ⟨b6, o1, none⟩)] w fun v32 w => OpS v32 fun p6 l6 c6
  => Hld (S w) (CallV Tryz.prog 62 #[.pointer (some ⟨b7, o2, none⟩)] w fun v33 w => OpS v33 fun p7 l7 c7 => Hld (S w) (DoV Tryz.prog (Instr.buildSlice 158 2 #[(0, .slice p6
  l6 c6), (1, .slice p7 l7 c7)]) w fun v34 w => OpS v34 fun p8 l8 c8 => Hld (S w) (CallV Tryz.prog 61 #[.agg cs9, .int .u32 0, .slice p8 l8 c8] w fun v35 w => OpI .i64 v35
  fun n12 => Hld (S w) (J3 (n12 != 0, ()) w))))) (fun _ s3 w => Cb s3.1 (Ret [] (R (.bool false) w)) (HeldR w fun S w => LdV b5 3 S fun v36 => OpS v36 fun p9 l9 c9 => LdV b3
  0 S fun v37 => OpI .i64 v37 fun n13 => Req (n13 ≠ 0) (IdxS p9 l9 (Int.tmod (IntKind.wrap .i64 dead) n13) 1 fun b10 o5 => LdV b10 o5 (At w) fun v38 => OpN v38 fun b11 o6 =>
  CallV Tryz.prog 58 #[.pointer (some ⟨b11, o6, none⟩)] w fun v39 w => Hld (S w) (HeldR w fun S w => LdV b5 3 S fun v40 => OpS v40 fun p10 l10 c10 => LdV b3 0 S fun v41 =>
  OpI .i64 v41 fun n14 => Req (n14 ≠ 0) (IdxS p10 l10 (Int.tmod (IntKind.wrap .i64 ((IntKind.wrap .i64 dead) + 1)) n14) 1 fun b12 o7 => LdV b12 o7 (At w) fun v42 => OpN v42
  fun b13 o8 => CallV Tryz.prog 58 #[.pointer (some ⟨b13, o8, none⟩)] w fun v43 w => Hld (S w) (LoopC (σ := Int × Unit) (fun _ s4 w K4 => Cb (decide (s4.1 < n4)) (LdA 4 b5 0
  (At w) fun cs10 => CallV Tryz.prog 29 #[.agg cs10, .int .i64 s4.1] w fun v44 w => T2 v44 fun v45 v46 => OpA 16 v45 fun cs11 => OpI .i64 v46 fun n15 => Alc 37 (zc Tryz.prog
  37) w fun b14 w => StA 16 b14 0 cs11 w fun w => JoinC (σ := Bool × Unit) (fun J5 => Cb (n15 != 0) (J5 (true, ()) w) (Cb (s4.1 != (Int.tmod (IntKind.wrap .i64 lba) n4))
  (LdA 16 b14 0 (At w) fun cs12 => DoQ Tryz.prog (Instr.build 37 #[]) (At w) fun v47 => OpA 16 v47 fun cs13 => EqB Tryz.prog .neq 37 (.tmp 187) (.tmp 188) (.agg cs12 :
  Value) (.agg cs13 : Value) (At w) fun g1 => Cb g1 (J5 (true, ()) w) (Cb (s4.1 == (Int.tmod (IntKind.wrap .i64 lba) n4)) (LdA 16 b14 0 (At w) fun cs14 => LdA 16 b2 0 (At w)
  fun cs15 => EqB Tryz.prog .neq 37 (.tmp 197) (.tmp 198) (.agg cs14 : Value) (.agg cs15 : Value) (At w) fun g2 => Cb g2 (Cb (n9 == 0) (J5 (true, ()) w) (LdA 16 b14 0 (At w)
  fun cs16 => LdA 16 b1 0 (At w) fun cs17 => EqB Tryz.prog .neq 37 (.tmp 204) (.tmp 205) (.agg cs16 : Value) (.agg cs17 : Value) (At w) fun g3 => J5 (g3, ()) w)) (J5 (false,
  ()) w)) (J5 (false, ()) w))) (Cb (s4.1 == (Int.tmod (IntKind.wrap .i64 lba) n4)) (LdA 16 b14 0 (At w) fun cs18 => LdA 16 b2 0 (At w) fun cs19 => EqB Tryz.prog .neq 37
  (.tmp 197) (.tmp 198) (.agg cs18 : Value) (.agg cs19 : Value) (At w) fun g4 => Cb g4 (Cb (n9 == 0) (J5 (true, ()) w) (LdA 16 b14 0 (At w) fun cs20 => LdA 16 b1 0 (At w)
  fun cs21 => EqB Tryz.prog .neq 37 (.tmp 204) (.tmp 205) (.agg cs20 : Value) (.agg cs21 : Value) (At w) fun g5 => J5 (g5, ()) w)) (J5 (false, ()) w)) (J5 (false, ()) w))))
  (fun _ s5 w => Cb s5.1 (Ret [] (R (.bool false) w)) (K4 (IntKind.wrap .i64 (s4.1 + 1), ()) w))) (Ret [] (R (.bool true) w))) (0, ()) w)))))))))))))))))))))))
theorem C_ravelinlaw10_IntentWhole {a : Int} {b : Int} {lba : Int} {old : Array Value} {now : Array Value} {cut : Int} {again : Int} {dead : Int} {fail : Bool} {w : World} {R : Value → World → Prop} (h : F_ravelinlaw10_IntentWhole a b lba old now cut again dead fail w R) : CallV Tryz.prog 7 #[.int .u8 a, .int .u8 b, .int .u8 lba, .agg old, .agg now, .int .u8 cut, .int .u8 again, .int .u8 dead, .bool fail] w R := by
  exact calls_of_F (args := [.int .u8 a, .int .u8 b, .int .u8 lba, .agg old, .agg now, .int .u8 cut, .int .u8 again, .int .u8 dead, .bool fail]) (mkAnnR [(27, [(32, (.int .i64))])] [] [(14, [])] [] [111, 133, 135, 137, 142, 144, 146, 157, 168, 100044, 100053, 100058] [] [(20, []), (22, [(147, .bool)]), (30, [(209, .bool)])]) Tryz_mixed Tryz.func7 rfl rfl (by kernel_rfl) h
end Go.Proofs

/-
  IntentWhole: the walk.
-/
namespace Go.Proofs
open Go Go.Ev Go.RowKit
set_option linter.unusedSimpArgs false
set_option linter.unusedVariables false
set_option maxRecDepth 100000

theorem mem_Rec {w : World} {q : MB} {s : MS} {R : Value → World → Prop} (h : MemsAt w q s) (f : Bool) (hby : By (cond f s.xb s.xa)) (hK : ∀ p' c' w', OwnL rLay w' w.heap.size 246 p' (scanB (cond f s.xb s.xa)).length c' (scanB (cond f s.xb s.xa)) → Keep (fun _ => False) w w' → R (.slice p' (scanB (cond f s.xb s.xa)).length c') w') :
    CallV Tryz.prog 62 #[.pointer (some ⟨ramM q f, 0, none⟩)] w R := by
  obtain ⟨pa, la, ca, pb, lb, cb, ha, hb, _⟩ := h.rams
  have h1 := ha.row.length
  have h2 := hb.row.length
  have h3 := h.fit
  have h4 := h.form
  cases f
  · exact ra_Records ha (by omega) hby hK
  · exact ra_Records hb (by omega) hby hK
theorem StmAt.pow {w w1 : World} {q : MB} {g : Geo} {bks : List (Nat × Nat)} {base : Nat} {dp : Option Addr} {dc : Nat} {s : SS} {xa xb : List Int} {pw : Pow} (h : StmAt w q g bks base dp dc s xa xb) (k : Keep (fun k => k = q.m) w w1) (hm : MaAt w1 q.m pw) : StmAt w1 q g bks base dp dc ⟨s.ds, pw⟩ xa xb :=
  h.ofMems (s' := ⟨pw, xa, xb⟩) (h.mems.pow k (fun i _ e => e) hm) (k.mono fun i e => Or.inl e)
theorem bsl_hh (p : Option Addr) (l c : Nat) (p' : Option Addr) (l' c' : Nat) (w : World) : (Instr.buildSlice 158 2 #[(0, .slice p l c), (1, .slice p' l' c')]).run Tryz.prog w = .ok (.slice (some ⟨w.heap.size, 0, none⟩) 2 2) (w.alloc (.cells #[.slice p l c, .slice p' l' c'] 113)) :=
  run_buildSlice w 158 113 2 _ #[.slice p l c, .slice p' l' c'] ((Tryz.prog.info? 113).get (by kernel_rfl)) (((Tryz.prog.info? 113).get (by kernel_rfl)).zero.get (by kernel_rfl)) (by kernel_rfl) (by kernel_rfl) (by kernel_rfl) (by decide +kernel) (by decide +kernel) (by kernel_rfl)
theorem bsl_ram2 (r r' : Nat) (w : World) : (Instr.buildSlice 109 2 #[(0, .pointer (some ⟨r, 0, none⟩)), (1, .pointer (some ⟨r', 0, none⟩))]).run Tryz.prog w = .ok (.slice (some ⟨w.heap.size, 0, none⟩) 2 2) (w.alloc (.cells #[.pointer (some ⟨r, 0, none⟩), .pointer (some ⟨r', 0, none⟩)] 104)) :=
  run_buildSlice w 109 104 2 _ #[.pointer (some ⟨r, 0, none⟩), .pointer (some ⟨r', 0, none⟩)] ((Tryz.prog.info? 104).get (by kernel_rfl)) (((Tryz.prog.info? 104).get (by kernel_rfl)).zero.get (by kernel_rfl)) (by kernel_rfl) (by kernel_rfl) (by kernel_rfl) (by decide +kernel) (by decide +kernel) (by kernel_rfl)
def gW (a b : Int) : Geo := ⟨a % 3 + 4, b % 2 + 1, 2⟩
theorem gW_ok (a b : Int) : GeoOk (gW a b) := by
  have h1 := Int.emod_nonneg a (show (3 : Int) ≠ 0 by decide)
  have h2 := Int.emod_lt_of_pos a (show (0 : Int) < 3 by decide)
  have h3 := Int.emod_nonneg b (show (2 : Int) ≠ 0 by decide)
  have h4 := Int.emod_lt_of_pos b (show (0 : Int) < 2 by decide)
  refine ⟨?_, ?_, ?_⟩
  · show 4 ≤ a % 3 + 4 ∧ a % 3 + 4 ≤ 32; omega
  · show 1 ≤ b % 2 + 1 ∧ b % 2 + 1 ≤ 8; omega
  · show 1 ≤ (2 : Int) ∧ (2 : Int) ≤ 64; omega
/-- the set, the memories, and what the law has in memory -/
structure WhI (w0 w : World) (q : MB) (g : Geo) (bks : List (Nat × Nat)) (b1 b2 b3 b5 : Nat) (old now : Sec) (rp : Option Addr) (dp : Option Addr) (dc : Nat) (s : SS) (xa xb : List Int) : Prop where
  stm : StmAt w q g bks w0.heap.size dp dc s xa xb
  set : Has w b5 (.cells (setV g dp g.d.toNat dc) 51 (0, 0))
  geo : Has w b3 (.cells (geoV g) 24 (0, 0))
  o : Has w b1 (.cells (secV old) 37 (0, 0))
  n : Has w b2 (.cells (secV now) 37 (0, 0))
  r : SlT dLay w 104 rp 2 2 ([false, true].map (ramM q))
  lowS : ∀ i, SFoot ⟨q.m, g, bks⟩ i → w0.heap.size ≤ i
  lowM : w0.heap.size ≤ q.a ∧ w0.heap.size ≤ q.b ∧ q.base = w0.heap.size
  k : Keep (fun _ => False) w0 w
section inv
variable {w0 w w1 : World} {q : MB} {g : Geo} {bks : List (Nat × Nat)} {b1 b2 b3 b5 : Nat} {old now : Sec} {rp dp : Option Addr} {dc : Nat} {s s' : SS} {xa xb xa' xb' : List Int}
theorem WhI.to (h : WhI w0 w q g bks b1 b2 b3 b5 old now rp dp dc s xa xb) (hs : StmAt w1 q g bks w0.heap.size dp dc s' xa' xb') (k : Keep (WFoot q g bks w) w w1) : WhI w0 w1 q g bks b1 b2 b3 b5 old now rp dp dc s' xa' xb' :=
  ⟨hs, WFoot.has h.stm k h.set (by decide) (by decide) (by decide) (by decide) (by decide), WFoot.has h.stm k h.geo (by decide) (by decide) (by decide) (by decide) (by decide), WFoot.has h.stm k h.o (by decide) (by decide) (by decide) (by decide) (by decide),
    WFoot.has h.stm k h.n (by decide) (by decide) (by decide) (by decide) (by decide), WFoot.slt h.stm k h.r (by decide) (by decide) (by decide) (by decide) (by decide), h.lowS, h.lowM, h.k.trans' k fun i hi hf => by
      have hl := h.lowM
      have hm := h.lowS q.m (Or.inl rfl)
      rcases hf with (e | e | e | ⟨hb, _⟩) | e
      · omega
      · omega
      · omega
      · omega
      · have := h.lowS i e; omega⟩
theorem WhI.keep0 (h : WhI w0 w q g bks b1 b2 b3 b5 old now rp dp dc s xa xb) (k : Keep (fun _ => False) w w1) : WhI w0 w1 q g bks b1 b2 b3 b5 old now rp dp dc s xa xb := h.to (h.stm.keep0 k) (WFoot.none k)
theorem WhI.pow {pw : Pow} (h : WhI w0 w q g bks b1 b2 b3 b5 old now rp dp dc s xa xb) (k : Keep (fun k => k = q.m) w w1) (hm : MaAt w1 q.m pw) : WhI w0 w1 q g bks b1 b2 b3 b5 old now rp dp dc ⟨s.ds, pw⟩ xa xb :=
  h.to (h.stm.pow k hm) (k.mono fun i e => Or.inl (Or.inl e))
def RedoT (b5 b6 b7 : Nat) (w : World) (K : Int → World → Prop) : Prop :=
  HeldR w fun S w => LdA 4 b5 0 S fun cs8 => CallV Tryz.prog 62 #[.pointer (some ⟨b6, 0, none⟩)] w fun v27 w => OpS v27 fun p3 l3 c3 => Hld (S w) (CallV Tryz.prog 62 #[.pointer (some ⟨b7, 0, none⟩)] w fun v28 w => OpS v28 fun p4 l4 c4 => Hld (S
  w) (DoV Tryz.prog (Instr.buildSlice 158 2 #[(0, .slice p3 l3 c3), (1, .slice p4 l4 c4)]) w fun v29 w => OpS v29 fun p5 l5 c5 => Hld (S w) (CallV Tryz.prog 61 #[.agg cs8,
  .int .u32 0, .slice p5 l5 c5] w fun v30 w => OpI .i64 v30 fun n11 => Hld (S w) (K n11 w))))
theorem kept_len {bs : List Int} {L : List Rec} (h : KeptB bs L) : 37 * L.length ≤ bs.length := by
  obtain ⟨_, t, _, _, rfl⟩ := h
  rw [List.length_append, recs_len]
  omega
theorem redoT (h : WhI w0 w q g bks b1 b2 b3 b5 old now rp dp dc s xa xb) {LA LB : List Rec} (hA : KeptB xa LA) (hB : KeptB xb LB) (hN : (pendG [LA, LB]).length ≤ 1) (hP : (pendS [LA, LB]).length ≤ 1000000) {K : Int → World → Prop}
    (hK : ∀ w', WhI w0 w' q g bks b1 b2 b3 b5 old now rp dp dc (applyS g s (pendS [LA, LB]) 0).2 xa xb → K (applyS g s (pendS [LA, LB]) 0).1 w') : RedoT b5 q.a q.b w K := by
  unfold RedoT
  intro d
  have h1 := h.keep0 (Keep.drew (fun _ => False) w d)
  generalize w.dr d = w1 at *
  clear h
  refine ⟨fun w' => Has w' b5 (.cells (setV g dp g.d.toNat dc) 51 (0, 0)), h1.set, ?_⟩
  refine LdA_of (cs := setV g dp g.d.toNat dc) rfl (fun w' hw => ⟨_, _, _, hw, Nat.le_refl 4, rfl⟩) ?_
  refine mem_Rec h1.stm.mems false hA.byb fun p3 c3 w2 o3 k2 => OpS_slice.2 ?_
  have e3 : scanB (cond false xb xa) = LA := hA.scan
  simp only [e3] at o3 ⊢
  have h2 := h1.keep0 k2
  refine ⟨h2.set, ?_⟩
  refine mem_Rec h2.stm.mems true hB.byb fun p4 c4 w3 o4 k3 => OpS_slice.2 ?_
  have e4 : scanB (cond true xb xa) = LB := hB.scan
  simp only [e4] at o4 ⊢
  have h3 := h2.keep0 k3
  refine ⟨h3.set, _, _, bsl_hh _ _ _ _ _ _ w3, OpS_slice.2 ?_⟩
  have k4 := Keep.new (fun _ => False) w3 (.cells #[.slice p3 LA.length c3, .slice p4 LB.length c4] 113)
  have hb4 := Has.new w3 (.cells #[.slice p3 LA.length c3, .slice p4 LB.length c4] 113)
  generalize w3.alloc (.cells #[.slice p3 LA.length c3, .slice p4 LB.length c4] 113) = w4 at *
  have h4 := h3.keep0 k4
  refine ⟨h4.set, ?_⟩
  have oh4 : OwnL hLay w4 0 113 (some ⟨w3.heap.size, 0, none⟩) 2 2 [(p3, LA.length, c3), (p4, LB.length, c4)] := OwnL.mk (xs := [(p3, LA.length, c3), (p4, LB.length, c4)]) (Nat.zero_le _) hb4 (by simp [maxLen]) rfl
  have hfit := h4.stm.mems.fit
  have hform := h4.stm.mems.form
  simp only at hfit hform
  have la := kept_len hA
  have lb := kept_len hB
  have hok : ∀ x ∈ [LA, LB].flatten, RcOk x := fun x hx => by
    simp only [List.flatten_cons, List.flatten_nil, List.append_nil, List.mem_append] at hx
    rcases hx with hx | hx
    · exact hA.1 x hx
    · exact hB.1 x hx
  refine i_RedoG sort_to1 (Q := [(p3, LA.length, c3), (p4, LB.length, c4)]) (LL := [LA, LB]) h4.stm.set h4.stm.disks oh4.sl rfl (fun i q' rs h5 h6 => ?_) (by omega) (by simp; omega) (fun x hx => lba_ok (hok x hx)) (fun x hx => (hok x hx).2.1) hN (by omega) hP fun w5 s5 k5 => OpI_int.2 ?_
  · match i, h5, h6 with
    | 0, h5, h6 => cases h5; cases h6; exact ⟨((o3.keep k3 (by simp)).keep k4 (by simp)).sl, o3.cap.1⟩
    | 1, h5, h6 => cases h5; cases h6; exact ⟨(o4.keep k4 (by simp)).sl, o4.cap.1⟩
    | i + 2, h5, h6 => simp at h5
  have h5 := h4.to (h4.stm.ofSet s5 k5) (WFoot.ofS k5)
  exact ⟨h5.set, hK w5 h5⟩
/-- a disk fails, as it is printed -/
def FailW (b3 b5 : Nat) (x : Int) (w : World) (K : World → Prop) : Prop :=
  HeldR w fun S w => LdV b5 3 S fun v9 => OpS v9 fun p1 l1 c2 => LdV b3 0 S fun v10 => OpI .i64 v10 fun n2 => Req (n2 ≠ 0) (IdxS p1 l1 (Int.tmod x n2) 1 fun b4 o => LdV b4 o (At w)
  fun v11 => OpN v11 fun b5 o1 => CallV Tryz.prog 58 #[.pointer (some ⟨b5, o1, none⟩)] w fun v12 w => Hld (S w) (K w))
theorem failW (h : WhI w0 w q g bks b1 b2 b3 b5 old now rp dp dc s xa xb) {x : Int} (hx : 0 ≤ x ∧ x ≤ 1000) {K : World → Prop}
    (hK : ∀ w', WhI w0 w' q g bks b1 b2 b3 b5 old now rp dp dc (failS s (x % g.d)) xa xb → K w') : FailW b3 b5 x w K := by
  unfold FailW
  have hgd := h.stm.set.geo.d
  simp only at hgd
  intro d
  have h1 := h.keep0 (Keep.drew (fun _ => False) w d)
  generalize w.dr d = w1 at *
  clear h
  have hS1 := h1.stm.set
  refine ⟨fun w' => Has w' b5 (.cells (setV g dp g.d.toNat dc) 51 (0, 0)) ∧ Has w' b3 (.cells (geoV g) 24 (0, 0)), ⟨h1.set, h1.geo⟩, ?_⟩
  refine LdV_of (v := .slice dp g.d.toNat dc) (fun w' hw => ⟨_, _, _, hw.1, rfl⟩) (OpS_slice.2 ?_)
  refine LdV_of (v := .int .i64 g.d) (fun w' hw => ⟨_, _, _, hw.2, rfl⟩) (OpI_int.2 ⟨by omega, ?_⟩)
  have hm0 := Int.emod_nonneg x (show g.d ≠ 0 by omega)
  have hm1 := Int.emod_lt_of_pos x (show 0 < g.d by omega)
  rw [Int.tmod_eq_emod_of_nonneg hx.1]
  have hnum : (s.ds.length : Int) = g.d := hS1.num
  generalize x % g.d = i at *
  obtain ⟨b, r, D, hbk, hD, hda, hdl⟩ := hS1.get (i := i.toNat) (by omega)
  have hDg : s.ds.getD i.toNat dsk0 = D := by rw [List.getD_eq_getElem?_getD, hD]; rfl
  have hbk : bks[i.toNat]? = some (b, r) := hbk
  refine h1.stm.disks.sl.ld0 (i := i) (n := 1) (x := b) (v := .pointer (some ⟨b, 0, none⟩)) rfl hm0 (by rw [List.getElem?_map, hbk]; rfl) rfl (OpN_some.2 ?_)
  refine d_Fail hda fun w2 hd2 k2 => ?_
  have kf : Keep (SFoot ⟨q.m, g, bks⟩) w1 w2 := k2.mono fun k hk => Or.inr (Or.inl (by rw [hk]; exact List.mem_map.2 ⟨(b, r), List.mem_of_getElem? hbk, rfl⟩))
  have hm2 : MaAt w2 q.m s.pw := k2.has hS1.main (fun e => (hda.nem hS1.main).1 e.symm)
  have hS2 := hS1.upd hbk (k2.mono fun k hk => Or.inr (Or.inl hk)) hd2 hdl hm2
  have es : failS s i = ⟨s.ds.set i.toNat { D with dead := true }, s.pw⟩ := by unfold failS; rw [hDg]
  rw [es] at hK
  have h2 := h1.to (h1.stm.ofSet hS2 kf) (WFoot.ofS kf)
  exact ⟨⟨h2.set, h2.geo⟩, hK w2 h2⟩
/-- all sectors are read -/
def ReadsW (b1 b2 b5 : Nat) (k n e9 : Int) (w : World) (R : Value → World → Prop) : Prop :=
  LoopC (σ := Int × Unit) (fun _ s4 w K4 => Cb (decide (s4.1 < n)) (LdA 4 b5 0 (At w) fun cs10 => CallV Tryz.prog 29 #[.agg cs10, .int .i64 s4.1] w fun v44 w => T2 v44 fun v45 v46 => OpA 16 v45 fun cs11 => OpI .i64 v46 fun n15 => Alc 37 (zc Tryz.prog 37) w fun b14 w => StA 16 b14 0 cs11 w fun w => JoinC (σ := Bool × Unit) (fun J5 => Cb (n15 != 0) (J5 (true, ()) w) (Cb (s4.1 != k)
  (LdA 16 b14 0 (At w) fun cs12 => DoQ Tryz.prog (Instr.build 37 #[]) (At w) fun v47 => OpA 16 v47 fun cs13 => EqB Tryz.prog .neq 37 (.tmp 187) (.tmp 188) (.agg cs12 :
  Value) (.agg cs13 : Value) (At w) fun g1 => Cb g1 (J5 (true, ()) w) (Cb (s4.1 == k) (LdA 16 b14 0 (At w) fun cs14 => LdA 16 b2 0 (At w)
  fun cs15 => EqB Tryz.prog .neq 37 (.tmp 197) (.tmp 198) (.agg cs14 : Value) (.agg cs15 : Value) (At w) fun g2 => Cb g2 (Cb (e9 == 0) (J5 (true, ()) w) (LdA 16 b14 0 (At w)
  fun cs16 => LdA 16 b1 0 (At w) fun cs17 => EqB Tryz.prog .neq 37 (.tmp 204) (.tmp 205) (.agg cs16 : Value) (.agg cs17 : Value) (At w) fun g3 => J5 (g3, ()) w)) (J5 (false,
  ()) w)) (J5 (false, ()) w))) (Cb (s4.1 == k) (LdA 16 b14 0 (At w) fun cs18 => LdA 16 b2 0 (At w) fun cs19 => EqB Tryz.prog .neq 37 (.tmp 197) (.tmp 198) (.agg cs18 : Value) (.agg cs19 : Value) (At w) fun g4 => Cb g4 (Cb (e9 == 0) (J5 (true, ()) w) (LdA 16 b14 0 (At w)
  fun cs20 => LdA 16 b1 0 (At w) fun cs21 => EqB Tryz.prog .neq 37 (.tmp 204) (.tmp 205) (.agg cs20 : Value) (.agg cs21 : Value) (At w) fun g5 => J5 (g5, ()) w)) (J5 (false, ()) w)) (J5 (false, ()) w))))
  (fun _ s5 w => Cb s5.1 (Ret [] (R (.bool false) w)) (K4 (IntKind.wrap .i64 (s4.1 + 1), ()) w))) (Ret [] (R (.bool true) w))) (0, ()) w
theorem readsW (h : WhI w0 w q g bks b1 b2 b3 b5 old now rp dp dc s xa xb) (hss : SsOk g s) (hon : s.pw.on = true) {nw : Int → Sec} (hi : Inv g s nw) (hn : ∀ l, SecOk (nw l)) {X Y : Int} (h2 : TwoS g s X Y) {k e9 : Int} (ho : SecOk old) (hw : SecOk now)
    (hk : ∀ l, l ≠ k → nw l = sec []) (hkk : nw k = now ∨ (nw k = old ∧ e9 ≠ 0)) {R : Value → World → Prop} (hK : ∀ w', Keep (fun _ => False) w0 w' → R (.bool true) w') : ReadsW b1 b2 b5 k (capG g) e9 w R := by
  unfold ReadsW
  have hg := hss.geo
  have hcap := hg.cap
  have hcapE : capG g = (g.d - 2) * g.c * g.s := rfl
  rw [← hcapE] at hcap
  refine LoopC_of (σ := Int × Unit) (fun st w' => ∃ i : Nat, st.1 = (i : Int) ∧ (i : Int) ≤ capG g ∧ Keep (fun _ => False) w w') (fun st _ => (capG g - st.1).toNat) ⟨0, rfl, by omega, Keep.refl _ _⟩ ?_
  rintro _ ⟨i, u⟩ w1 ⟨i', hi', hil, k1⟩
  simp only at hi' ⊢
  subst hi'
  have h1 := h.keep0 k1
  refine Cb_of (fun hc => ?_) (fun hc => Ret_nil.2 (hK w1 h1.k))
  have hc : (i' : Int) < capG g := by simpa using hc
  have ek : IntKind.wrap .i64 ((i' : Int) + 1) = ((i' + 1 : Nat) : Int) := by rw [wrapI (by omega) (by omega)]; omega
  have hl1 : (i' : Int) < (g.d - 2) * g.c * g.s := hc
  obtain ⟨pst, pco, pof⟩ := spotP_ok hg (show 0 ≤ (i' : Int) by omega) hl1
  have hrd : readS g s (i' : Int) = (nw (i' : Int), 0) := by
    rcases hi.read hg hn hon (show 0 ≤ (i' : Int) by omega) hl1 with e | ⟨_, e, _⟩
    · exact e
    · exact absurd (h2.lost hg pst pof) e
  refine LdA_all h1.set rfl ?_
  refine st_Read (q := ⟨q.m, g, bks⟩) h1.stm.set h1.stm.disks.sl h1.stm.disks.cap.1 hss.ok (show 0 ≤ (i' : Int) by omega) hl1 fun w2 k2 => ?_
  have hrd' : readS (SB.mk q.m g bks).g s (i' : Int) = (nw (i' : Int), 0) := hrd
  rw [hrd']
  refine T2_mk.2 (OpA_agg.2 ⟨rfl, OpI_int.2 ?_⟩)
  refine copy_of (by rw [zc_sec]; rfl) rfl (one_secV _) fun w3 hb3 k3 z3 => ?_
  have k13 := (k1.trans k2).trans k3
  have h3 := (h1.keep0 k2).keep0 k3
  generalize w2.heap.size = b14 at *
  refine ⟨fun st' w' => st'.1 = false ∧ Keep (fun _ => False) w w', ?_, ?_⟩
  · refine (Cb_false (p := _)).2 ?_
    have fin : ∀ w', Keep (fun _ => False) w3 w' → (false, ()).1 = false ∧ Keep (fun _ => False) w w' := fun w' k' => ⟨rfl, k13.trans k'⟩
    have atk : (i' : Int) = k → LdA 16 b14 0 (At w3) fun cs18 => LdA 16 b2 0 (At w3) fun cs19 => ∀ (x y : Operand), EqB Tryz.prog .neq 37 x y (.agg cs18 : Value) (.agg cs19 : Value) (At w3) fun g4 => Cb g4 (Cb (e9 == 0) ((true, ()).1 = false ∧ Keep (fun _ => False) w w3) (LdA 16 b14 0 (At w3)
        fun cs20 => LdA 16 b1 0 (At w3) fun cs21 => ∀ (x y : Operand), EqB Tryz.prog .neq 37 x y (.agg cs20 : Value) (.agg cs21 : Value) (At w3) fun g5 => (g5, ()).1 = false ∧ Keep (fun _ => False) w w3)) ((false, ()).1 = false ∧ Keep (fun _ => False) w w3) := by
      intro e
      refine LdA_all hb3 rfl ?_
      refine LdA_all h3.n rfl ?_
      intro x y
      refine EqB_sec_ne (hn _) hw fun r hr => ?_
      cases r with
      | false => exact (Cb_false (p := _)).2 ⟨rfl, k13⟩
      | true =>
        refine (Cb_true (q := _)).2 ?_
        have hne : nw (i' : Int) ≠ now := hr.1 rfl
        rw [e] at hne
        rcases hkk with e1 | ⟨e1, e2⟩
        · exact absurd e1 hne
        · have e9' : (e9 == 0) = false := by simpa using e2
          rw [e9']
          refine (Cb_false (p := _)).2 ?_
          refine LdA_all hb3 rfl ?_
          refine LdA_all h3.o rfl ?_
          intro x y
          refine EqB_sec_ne (hn _) ho fun r hr => ?_
          cases r with
          | false => exact ⟨rfl, k13⟩
          | true => exact absurd (by rw [e]; exact e1) (hr.1 rfl)
    refine Cb_of (fun hne => ?_) (fun heq => ?_)
    · have hne : (i' : Int) ≠ k := by simpa using hne
      refine LdA_all hb3 rfl ?_
      refine DoQ_of (v := .agg (secV (sec []))) (fun _ => run_build _ _ _ _ (by kernel_rfl)) (OpA_agg.2 ⟨rfl, ?_⟩)
      refine EqB_sec_ne (hn _) sec0_ok fun r hr => ?_
      have hr0 : r = false := by
        cases r with
        | false => rfl
        | true => exact absurd (hk _ hne) (hr.1 rfl)
      rw [hr0]
      refine (Cb_false (p := _)).2 ?_
      have e1 : ((i' : Int) == k) = false := by simpa using hne
      rw [e1]
      exact (Cb_false (p := _)).2 ⟨rfl, k13⟩
    · have heq : (i' : Int) = k := by simpa using heq
      have e1 : ((i' : Int) == k) = true := by simpa using heq
      rw [e1]
      refine (Cb_true (q := _)).2 ?_
      obtain ⟨c1, g1, g2, c2, g3, g4, g5⟩ := atk heq
      refine ⟨c1, g1, g2, c2, g3, g4, ?_⟩
      obtain ⟨r, g6, g7⟩ := g5 (.tmp 197) (.tmp 198)
      refine ⟨r, g6, ?_⟩
      cases r with
      | false => exact g7
      | true =>
        refine (Cb_true (q := _)).2 ?_
        have g7 := (Cb_true (q := _)).1 g7
        cases he : (e9 == 0) with
        | true => rw [he] at g7; exact g7
        | false =>
          rw [he] at g7
          obtain ⟨c3, g8, g9, c4, g10, g11, g12⟩ := g7
          exact ⟨c3, g8, g9, c4, g10, g11, g12 _ _⟩
  · rintro _ ⟨g5, u⟩ w4 ⟨e5, k5⟩
    simp only at e5 ⊢
    subst e5
    refine (Cb_false (p := _)).2 ?_
    exact ⟨_, by show (capG g - IntKind.wrap .i64 ((i' : Int) + 1)).toNat < (capG g - (i' : Int)).toNat; rw [ek]; omega, ⟨i' + 1, ek, by omega, k5⟩, rfl⟩
end inv
end Go.Proofs

/-
  IntentWhole: the walk, put together.
-/
namespace Go.Proofs
open Go Go.Ev Go.RowKit
set_option linter.unusedSimpArgs false
set_option linter.unusedVariables false
set_option maxRecDepth 100000

theorem putV_none : ∀ (xs : List PutS) {v : Int → Int → Option Sec} {i a : Int}, putV xs v i a = none → v i a = none
  | [], _, _, _, h => h
  | x :: xs, v, i, a, h => by
    have : (if i = x.plc.dk ∧ a = x.plc.at_ then some x.cel.data else v i a) = none := putV_none xs h
    split at this
    · cases this
    · exact this
theorem planS_pw {g : Geo} {ds : List Dsk} {p p' : Pow} (h : p.on = true) (h' : p'.on = true) (lba : Int) (data : Sec) : planS g ⟨ds, p⟩ lba data = planS g ⟨ds, p'⟩ lba data := by
  unfold planS
  rw [show ({ ds := ds, pw := p } : SS).pw.on = true from h, show ({ ds := ds, pw := p' } : SS).pw.on = true from h']
  rfl
theorem TwoS.cut {g : Geo} {s s' : SS} {X Y : Int} {xs : List PutS} (h : TwoS g s X Y) (k : CutS g s s' xs) : TwoS g s' X Y :=
  ⟨fun i a hi ha hv => by
    rw [k.dead]
    rw [k.view i a hi.1 ha.1] at hv
    exact h.cells i a hi ha (putV_none xs hv), fun i hi hd => h.dead i hi (by rw [← k.dead]; exact hd)⟩
theorem SsOk.pw {g : Geo} {s : SS} (h : SsOk g s) (p : Pow) : SsOk g ⟨s.ds, p⟩ := ⟨h.geo, h.num, h.len, h.ok⟩
theorem CutS.fromPw {g : Geo} {s s' : SS} {p : Pow} {xs : List PutS} (h : CutS g ⟨s.ds, p⟩ s' xs) : CutS g s s' xs := ⟨h.ss, h.dead, h.key, h.view⟩
theorem CutS.toPw {g : Geo} {s s' : SS} {p : Pow} {xs : List PutS} (h : CutS g s s' xs) : CutS g s ⟨s'.ds, p⟩ xs := ⟨h.ss.pw p, h.dead, h.key, h.view⟩
/-- behind all of the cells of a write the set holds what was written -/
theorem CutS.inv {g : Geo} {s s' : SS} (hs : SsOk g s) {now : Int → Sec} (hi : Inv g s now) (hn : ∀ l, SecOk (now l)) (hon : s.pw.on = true) {lba : Int} (h0 : 0 ≤ lba) (h1 : lba < (g.d - 2) * g.c * g.s) {data : Sec} (hd : SecOk data) (hlost : lostN (colsS g s (spotP g lba).1 (spotP g lba).2.2) ≤ 2)
    (hk : ∀ i : Nat, (s.ds.getD i dsk0).key ≤ 0) (k : CutS g s s' (planS g s lba data).1) : Inv g s' (upd now lba data) := by
  have hss := hs.pw ⟨true, 0, 0⟩
  have hinv : Inv g ⟨s.ds, ⟨true, 0, 0⟩⟩ now := hi
  obtain ⟨hp2, hps⟩ := planS_seal hs hi hn hon h0 h1 hd hlost
  obtain ⟨-, s2, e2, w2⟩ := hinv.write (ep := 0) hss hn ⟨rfl, rfl⟩ h0 h1 hd hk hlost
  have ep : planS g ⟨s.ds, ⟨true, 0, 0⟩⟩ lba data = planS g s lba data := planS_pw (p := ⟨true, 0, 0⟩) (p' := s.pw) rfl hon lba data
  rw [ep] at e2
  obtain ⟨j, c1, c2, c3, c4⟩ := applyS_cut (ep := 0) (xs := (planS g s lba data).1) hss rfl (fun x hx => (hps x hx).1) hk
  have hj : j = (planS g s lba data).1.length := by
    rcases c3 with ⟨_, e, _⟩ | ⟨e, _⟩
    · exact e
    · rw [(c4 rfl).1] at e; cases e
  rw [hj, List.take_length, e2] at c2
  exact w2.inv.see hs.geo fun i a hi' ha => by rw [k.view i a hi' ha]; exact (c2.view i a hi' ha).symm
theorem map_seal {P : List PutS} (h : ∀ x ∈ P, sealP x = x) : P.map sealP = P := by
  induction P with
  | nil => rfl
  | cons x xs ih => rw [List.map_cons, h x (by simp), ih fun y hy => h y (by simp [hy])]
theorem zc_geoW : (zc Tryz.prog 24).size = 3 := by kernel_rfl
theorem whole_walkR {a b lba cut again dead : Int} {old now : Sec} {fail : Bool} {w : World} {R : Value → World → Prop} (ha : 0 ≤ a ∧ a ≤ 255) (hb : 0 ≤ b ∧ b ≤ 255) (hl : 0 ≤ lba ∧ lba ≤ 255) (hc : 0 ≤ cut ∧ cut ≤ 255) (hg' : 0 ≤ again ∧ again ≤ 255) (hd : 0 ≤ dead ∧ dead ≤ 255) (ho : SecOk old) (hw : SecOk now)
    (hK : ∀ w', Keep (fun _ => False) w w' → R (.bool true) w') :
    CallV Tryz.prog 7 #[.int .u8 a, .int .u8 b, .int .u8 lba, .agg (secV old), .agg (secV now), .int .u8 cut, .int .u8 again, .int .u8 dead, .bool fail] w R := by
  apply C_ravelinlaw10_IntentWhole
  unfold F_ravelinlaw10_IntentWhole
  have h1 := Int.emod_nonneg a (show (3 : Int) ≠ 0 by decide)
  have h2 := Int.emod_lt_of_pos a (show (0 : Int) < 3 by decide)
  have h3 := Int.emod_nonneg b (show (2 : Int) ≠ 0 by decide)
  have h4 := Int.emod_lt_of_pos b (show (0 : Int) < 2 by decide)
  have h5 := Int.emod_nonneg cut (show (24 : Int) ≠ 0 by decide)
  have h6 := Int.emod_lt_of_pos cut (show (0 : Int) < 24 by decide)
  have h7 := Int.emod_nonneg again (show (5 : Int) ≠ 0 by decide)
  have h8 := Int.emod_lt_of_pos again (show (0 : Int) < 5 by decide)
  rw [Int.tmod_eq_emod_of_nonneg ha.1, Int.tmod_eq_emod_of_nonneg hb.1, wrapI (x := a % 3) (by omega) (by omega), wrapI (x := a % 3 + 4) (by omega) (by omega), wrapI (x := b % 2) (by omega) (by omega), wrapI (x := b % 2 + 1) (by omega) (by omega),
    wrapI (x := lba) (by omega) (by omega), wrapI (x := dead) (by omega) (by omega), wrapI (x := cut) (by omega) (by omega), wrapI (x := again) (by omega) (by omega), wrapI (x := dead + 1) (by omega) (by omega), Int.tmod_eq_emod_of_nonneg hc.1, Int.tmod_eq_emod_of_nonneg hg'.1]
  refine alc_fresh fun w1 hb1 k1 z1 => ?_
  refine alc_fresh fun w2 hb2 k2 z2 => ?_
  refine ⟨by decide, by decide, ?_⟩
  refine DoQ_of (v := .agg (geoV (gW a b))) (fun _ => run_build _ _ _ _ (by kernel_rfl)) (OpA_agg.2 ⟨rfl, ?_⟩)
  have hg := gW_ok a b
  generalize gW a b = g at *
  have hgd := hg.d
  refine copy_of zc_geoW rfl (one_geoV _) fun w3 hb3 k3 z3 => ?_
  refine ma_New fun m w4 hm hma k4 z4 => OpN_some.2 ?_
  refine LdA_all (k4.has hb3 (by simp)) rfl ?_
  refine st_New hg hma fun dp dc bks w5 hS5 o5 hfr k5 => T2_mk.2 (OpA_agg.2 ⟨rfl, OpI_int.2 ?_⟩)
  refine copy_of zc_setW rfl (one_setV _ _ _ _) fun w6 hb6 k6 z6 => ?_
  refine ra_New (base := w.heap.size) (by omega) (by omega) fun w7 hr7 k7 z7 => T2_mk.2 (OpN_some.2 (OpI_int.2 ?_))
  refine ra_New (base := w.heap.size) (by omega) (by omega) fun w8 hr8 k8 z8 => T2_mk.2 (OpN_some.2 (OpI_int.2 ?_))
  refine aw10 fun w9 k9 => OpB_bool.2 ⟨by trivial, by trivial, by trivial, by trivial, by trivial, by trivial, (Cb_false (p := _)).2 ?_⟩
  have k03 := (k1.trans k2).trans k3
  have k69 := ((k6.trans k7).trans k8).trans k9
  have k79 := (k7.trans k8).trans k9
  have k89 := k8.trans k9
  have z03 := k03.size
  have z04 := (k03.trans k4).size
  have z05 := ((k03.trans k4).trans k5).size
  have hne : w6.heap.size ≠ w7.heap.size := by omega
  have hs0 := newS_ok hg ⟨true, 0, 0⟩
  have hi0 := newS_inv hg ⟨true, 0, 0⟩
  have hk0 : ∀ i : Nat, ((newS g ⟨true, 0, 0⟩).ds.getD i dsk0).key ≤ 0 := fun i => by rw [newS_key]; omega
  have hk09 : Keep (fun _ => False) w w9 := ((k03.trans k4).trans k5).trans k69
  have hmem9 : MemsAt w9 ⟨m, w6.heap.size, w7.heap.size, w.heap.size, 4000⟩ ⟨⟨true, 0, 0⟩, [], []⟩ := by
    refine ⟨(k5.trans k69).has hma (by simp), ⟨none, 0, 0, none, 0, 0, ⟨(k8.trans k9).has hr7.cells (by simp), OwnL.nil⟩, ⟨k9.has hr8.cells (by simp), OwnL.nil⟩, by simp⟩, hne, ⟨by simp, by simp⟩, ⟨by show (37 : Int) ≤ 4000; omega, by show (4000 : Int) ≤ 65536; omega⟩, hk09.size⟩
  have hstm9 : StmAt w9 ⟨m, w6.heap.size, w7.heap.size, w.heap.size, 4000⟩ g bks w.heap.size dp dc (newS g ⟨true, 0, 0⟩) [] [] := ⟨hS5.keep0 k69, (o5.rebase z04).keep k69 (by simp), hmem9⟩
  have hset9 := k79.has hb6 (by simp)
  have hgeo9 := ((k4.trans k5).trans k69).has hb3 (by simp)
  have ho9 := ((((k2.trans k3).trans k4).trans k5).trans k69).has hb1 (by simp)
  have hn9 := (((k3.trans k4).trans k5).trans k69).has hb2 (by simp)
  have hlowS : ∀ i, SFoot ⟨m, g, bks⟩ i → w.heap.size ≤ i := fun i hi => by
    rcases hi with e | hi | hi
    · have e : i = m := e
      omega
    · obtain ⟨br, hbr, rfl⟩ := List.mem_map.1 hi
      have := (hfr br hbr).1; omega
    · obtain ⟨br, hbr, rfl⟩ := List.mem_map.1 hi
      have := (hfr br hbr).2; omega
  have hlowM : w.heap.size ≤ w6.heap.size ∧ w.heap.size ≤ w7.heap.size := by omega
  clear hr7 hr8 hS5 o5 hma hmem9
  generalize w5.heap.size = b5 at *
  generalize w2.heap.size = b3 at *
  generalize w1.heap.size = b2 at *
  generalize hb0 : w.heap.size = b1 at *
  generalize w6.heap.size = ra at *
  generalize w7.heap.size = rb at *
  refine LdV_has (v := .slice dp g.d.toNat dc) hset9 rfl (OpS_slice.2 ?_)
  refine LdV_has (v := .int .i64 g.d) hgeo9 rfl (OpI_int.2 ?_)
  have e1 : (((g.d.toNat : Nat) : Int) != g.d) = false := by
    have : ((g.d.toNat : Nat) : Int) = g.d := by omega
    rw [this]; simp
  rw [e1]
  refine (Cb_false (p := _)).2 ?_
  refine LdA_all hgeo9 rfl ?_
  refine r3_Cap hg fun w10 k10 => T2_mk.2 (OpI_int.2 (OpI_int.2 ?_))
  have hcap := hg.cap
  have hcapE : capG g = (g.d - 2) * g.c * g.s := rfl
  rw [← hcapE] at hcap ⊢
  refine ⟨by omega, ?_⟩
  refine ⟨_, _, bsl_ram2 _ _ _, OpS_slice.2 ?_⟩
  have k11 := Keep.new (fun _ => False) w10 (.cells #[.pointer (some ⟨ra, 0, none⟩), .pointer (some ⟨rb, 0, none⟩)] 104)
  have hb11 := Has.new w10 (.cells #[.pointer (some ⟨ra, 0, none⟩), .pointer (some ⟨rb, 0, none⟩)] 104)
  generalize w10.alloc (.cells #[.pointer (some ⟨ra, 0, none⟩), .pointer (some ⟨rb, 0, none⟩)] 104) = w11 at *
  have or11 : SlT dLay w11 104 (some ⟨w10.heap.size, 0, none⟩) 2 2 ([false, true].map (ramM ⟨m, ra, rb, b1, 4000⟩)) := SlT.of (OwnL.mk (base := 0) (xs := [ra, rb]) (Nat.zero_le _) hb11 (by simp [maxLen]) rfl)
  generalize (some (⟨w10.heap.size, 0, none⟩ : Addr)) = rp at *
  have k911 := k10.trans k11
  subst hb0
  have H : WhI w w11 ⟨m, ra, rb, w.heap.size, 4000⟩ g bks w.heap.size b2 b3 b5 old now rp dp dc (newS g ⟨true, 0, 0⟩) [] [] :=
    ⟨hstm9.keep0 k911, k911.has hset9 (by simp), k911.has hgeo9 (by simp), k911.has ho9 (by simp), k911.has hn9 (by simp), or11, hlowS, ⟨hlowM.1, hlowM.2, rfl⟩, hk09.trans k911⟩
  clear hstm9 hset9 hgeo9 ho9 hn9 or11 hb11 hb1 hb2 hb3 hb6
  generalize hq : (⟨m, ra, rb, w.heap.size, 4000⟩ : MB) = q at *
  have hqm : q.m = m := by rw [← hq]
  have hqa : q.a = ra := by rw [← hq]
  have hqb : q.b = rb := by rw [← hq]
  have hqz : q.sz = 4000 := by rw [← hq]
  subst hqm hqa hqb
  clear hq
  have hlm0 := Int.emod_nonneg lba (show capG g ≠ 0 by omega)
  have hlm1 := Int.emod_lt_of_pos lba (show 0 < capG g by omega)
  rw [Int.tmod_eq_emod_of_nonneg hl.1]
  generalize hk : lba % capG g = k at *
  have hk1 : k < (g.d - 2) * g.c * g.s := hlm1
  obtain ⟨pst, pco, pof⟩ := spotP_ok hg hlm0 hk1
  -- the first write
  have hXY0 := newS_two hg ⟨true, 0, 0⟩ (dead % g.d) ((dead + 1) % g.d)
  have hlost0 := hXY0.lost hg pst pof
  obtain ⟨aw1, aw2⟩ := writeM_two (sz := q.sz) (ep := 0) (R1 := []) (v := 1) hs0 hi0 now0_ok rfl hlm0 hk1 ho hlost0 hk0 ⟨by omega, by omega⟩ (xa := []) (xb := []) ⟨by simp, rfl⟩ ⟨by simp, rfl⟩ (by rw [hqz]; simp)
  obtain ⟨aw3, aw4, aw5, aw6, aw7⟩ := aw2 rfl
  obtain ⟨ia0, ib0, j0, q1, q2, q3, q4, q5, q6, q7, q8, q9⟩ := aw1.cut
  have hia0 := q9 aw3
  have hj0 := q8 hia0
  obtain ⟨hp2, hps⟩ := planS_seal hs0 hi0 now0_ok rfl hlm0 hk1 ho hlost0
  have hplen := planS_len (g := g) (s := newS g ⟨true, 0, 0⟩) (lba := k) (data := old)
  have hinv1 := CutS.inv hs0 hi0 now0_ok rfl hlm0 hk1 ho hlost0 hk0 (s' := (writeM q.sz g [false, true] 1 k old 0 (newS g ⟨true, 0, 0⟩) [] []).2.1) (by rw [hj0, List.take_length] at q6; exact q6)
  have hXY1 := hXY0.cut q6
  have hdead1 : ∀ i, deadS (writeM q.sz g [false, true] 1 k old 0 (newS g ⟨true, 0, 0⟩) [] []).2.1 i = false := fun i => by rw [q6.dead]; exact newS_dead g _ i
  have hkey1 : ∀ i : Nat, ((writeM q.sz g [false, true] 1 k old 0 (newS g ⟨true, 0, 0⟩) [] []).2.1.ds.getD i dsk0).key ≤ 0 := fun i => by rw [q6.key]; exact hk0 i
  have hss1 := q6.ss
  refine LdA_all H.set rfl ?_
  refine LdA_all H.o rfl ?_
  refine i_WriteM (fs := [false, true]) H.stm hs0.ok H.r (by omega) hlm0 hk1 ho fun w12 s12 k12 => OpI_int.2 ?_
  have H1 := H.to s12 k12
  rw [List.nil_append] at aw6 aw7
  generalize hP1 : (planS g (newS g ⟨true, 0, 0⟩) k old).1 = P1 at *
  generalize writeM q.sz g [false, true] 1 k old 0 (newS g ⟨true, 0, 0⟩) [] [] = W1 at *
  rw [aw3]
  refine (Cb_false (p := _)).2 ?_
  clear s12 k12 H aw1 aw2 q4 q5 q6 q7 q8 q9
  have hon1 := aw4
  have hn1 := upd_ok now0_ok ho k
  have hold : OldR (recsW 1 P1) 2 := by
    refine ⟨aw6.1, fun r hr h4 => ⟨recK 5 1, by unfold recsW; simp, rfl, ?_⟩, fun r hr => ?_⟩
    · obtain ⟨n, hn⟩ := List.mem_iff_getElem?.1 hr
      rw [(recsW_at hn).1]; rfl
    · obtain ⟨n, hn⟩ := List.mem_iff_getElem?.1 hr
      rw [(recsW_at hn).1]; decide
  have hrl1 := recsW_len 1 P1
  generalize recsW 1 P1 = R1 at *
  -- a disk fails, or none
  have hdm0 := Int.emod_nonneg dead (show g.d ≠ 0 by omega)
  have hdm1 := Int.emod_lt_of_pos dead (show 0 < g.d by omega)
  have hem0 := Int.emod_nonneg (dead + 1) (show g.d ≠ 0 by omega)
  have hem1 := Int.emod_lt_of_pos (dead + 1) (show 0 < g.d by omega)
  refine ⟨fun _ w' => ∃ s, WhI w w' q g bks w.heap.size b2 b3 b5 old now rp dp dc s W1.2.2.1 W1.2.2.2 ∧ SsOk g s ∧ Inv g s (upd now0 k old) ∧ TwoS g s (dead % g.d) ((dead + 1) % g.d) ∧ (∀ i : Nat, (s.ds.getD i dsk0).key ≤ 0) ∧ s.pw.on = true, ?_, ?_⟩
  · refine Cb_of (fun _ => ?_) (fun _ => ⟨_, H1, hss1, hinv1, hXY1, hkey1, hon1⟩)
    refine failW H1 (x := dead) (by omega) fun w' h' => ⟨_, h', failS_ok hss1 hdm0 hdm1, failS_inv hss1 hinv1 hdm0 hdm1, hXY1.fail hss1 hdm0 hdm1 (Or.inl rfl), fun i => ?_, hon1⟩
    rw [failS_key (by have := hss1.num; omega)]
    exact hkey1 i
  rintro _ _ w13 ⟨s1, H13, hss13, hinv13, hXY13, hkey13, hon13⟩
  clear H1 hss1 hinv1 hXY1 hkey1 hdead1
  refine ⟨by decide, ?_⟩
  refine ma_Cut (p := s1.pw) H13.stm.mems.main h5 (by omega) hon13 fun w14 m14 k14 z14 => OpI_int.2 ((Cb_false (p := _)).2 ?_)
  have H14 := H13.pow k14 m14
  have hss14 := hss13.pw { s1.pw with left := cut % 24 + 1 }
  have hinv14 : Inv g ⟨s1.ds, { s1.pw with left := cut % 24 + 1 }⟩ (upd now0 k old) := hinv13
  have hlost14 : lostN (colsS g ⟨s1.ds, { s1.pw with left := cut % 24 + 1 }⟩ (spotP g k).1 (spotP g k).2.2) ≤ 2 := hXY13.lost hg pst pof
  -- the second write
  obtain ⟨aw1, _⟩ := writeM_two (sz := q.sz) (ep := 0) (R1 := R1) (v := 2) hss14 hinv14 hn1 hon13 hlm0 hk1 hw hlost14 hkey13 ⟨by omega, by omega⟩ aw6 aw7 (by rw [hqz, hrl1]; omega)
  obtain ⟨ia, ib, j, q1, q2, q3, q4, q5, q6, q7, q8, q9⟩ := aw1.cut
  obtain ⟨_, hps2⟩ := planS_seal hss14 hinv14 hn1 hon13 hlm0 hk1 hw hlost14
  have hplen2 := planS_len (g := g) (s := ⟨s1.ds, { s1.pw with left := cut % 24 + 1 }⟩) (lba := k) (data := now)
  have hinvN : ∀ s', CutS g ⟨s1.ds, { s1.pw with left := cut % 24 + 1 }⟩ s' (planS g ⟨s1.ds, { s1.pw with left := cut % 24 + 1 }⟩ k now).1 → Inv g s' (upd (upd now0 k old) k now) := fun s' hs' => CutS.inv hss14 hinv14 hn1 hon13 hlm0 hk1 hw hlost14 hkey13 hs'
  refine LdA_all H14.set rfl ?_
  refine LdA_all H14.n rfl ?_
  refine i_WriteM (fs := [false, true]) H14.stm hss14.ok H14.r (by omega) hlm0 hk1 hw fun w15 s15 k15 => OpI_int.2 ?_
  have H15 := H14.to s15 k15
  clear s15 k15 H14 aw1
  generalize (planS g ⟨s1.ds, { s1.pw with left := cut % 24 + 1 }⟩ k now).1 = P at *
  generalize writeM q.sz g [false, true] 2 k now 0 ⟨s1.ds, { s1.pw with left := cut % 24 + 1 }⟩ W1.2.2.1 W1.2.2.2 = W2 at *
  have hXY15 : TwoS g W2.2.1 (dead % g.d) ((dead + 1) % g.d) := TwoS.cut (s := ⟨s1.ds, { s1.pw with left := cut % 24 + 1 }⟩) ⟨hXY13.cells, hXY13.dead⟩ q6
  have hin : ∀ x ∈ P, InR x := fun x hx => seal_inR hg (hps2 x hx).1
  obtain ⟨pd1, pd2⟩ := pend_two hold hin q1 q2
  rw [map_seal fun x hx => (hps2 x hx).2] at pd1
  generalize hPS : pendS [R1 ++ (recsW 2 P).take ia, R1 ++ (recsW 2 P).take ib] = PS at *
  have hPSl : PS.length ≤ 1000000 := by
    rw [pd1]; split
    · omega
    · simp
  have hPSs : ∀ x ∈ PS, Sealed g W2.2.1 x := fun x hx => by
    rw [pd1] at hx
    split at hx
    · obtain ⟨y1, y2, y3, y4⟩ := (hps2 x hx).1
      exact ⟨y1, y2, y3, by rw [q6.dead]; exact y4⟩
    · simp at hx
  refine ma_Restore (p := W2.2.1.pw) H15.stm.mems.main fun w16 m16 k16 z16 => ?_
  have H16 := H15.pow k16 m16
  clear H15
  refine ⟨by decide, ?_⟩
  refine ma_Cut (p := ⟨true, 0, W2.2.1.pw.steps⟩) m16 h7 (by omega) rfl fun w17 m17 k17 z17 => OpI_int.2 ?_
  have H17 := H16.pow k17 m17
  clear H16 m16 k16
  have hss17 := q6.ss.pw ⟨true, again % 5 + 1, W2.2.1.pw.steps⟩
  have hkey17 : ∀ i : Nat, ((⟨W2.2.1.ds, ⟨true, again % 5 + 1, W2.2.1.pw.steps⟩⟩ : SS).ds.getD i dsk0).key ≤ 0 := fun i => by
    have := q6.key i
    show (W2.2.1.ds.getD i dsk0).key ≤ 0
    rw [this]; exact hkey13 i
  -- redone with the power going, and again
  refine ⟨fun _ w' => ∃ s i, WhI w w' q g bks w.heap.size b2 b3 b5 old now rp dp dc s W2.2.2.1 W2.2.2.2 ∧ CutS g W2.2.1 s (PS.take i), ?_, ?_⟩
  · refine redoT H17 q4 q5 pd2 (by rw [hPS]; exact hPSl) fun w' h' => ?_
    rw [hPS] at h'
    obtain ⟨i, c1, c2, _, _⟩ := applyS_cut (ep := 0) (xs := PS) hss17 rfl hPSs hkey17
    exact ⟨_, i, h', c2.fromPw⟩
  rintro _ _ w18 ⟨s4, i4, H18, cut4⟩
  clear H17
  refine ma_Restore (p := s4.pw) H18.stm.mems.main fun w19 m19 k19 z19 => ?_
  have H19 := H18.pow k19 m19
  clear H18
  have hss19 := cut4.ss.pw ⟨true, 0, s4.pw.steps⟩
  refine ⟨fun st w' => st.1 = false ∧ ∃ s, WhI w w' q g bks w.heap.size b2 b3 b5 old now rp dp dc s W2.2.2.1 W2.2.2.2 ∧ CutS g W2.2.1 s PS ∧ s.pw.on = true, ?_, ?_⟩
  · refine redoT H19 q4 q5 pd2 (by rw [hPS]; exact hPSl) fun w' h' => ?_
    rw [hPS] at h' ⊢
    obtain ⟨i, c1, c2, c3, c4⟩ := applyS_cut (ep := 0) (xs := PS) (s := ⟨s4.ds, ⟨true, 0, s4.pw.steps⟩⟩) hss19 rfl (fun x hx => by
      obtain ⟨y1, y2, y3, y4⟩ := hPSs x hx
      exact ⟨y1, y2, y3, by have := cut4.dead x.plc.dk; show deadS s4 x.plc.dk = false; rw [this]; exact y4⟩) (fun i => by
      have e1 := cut4.key i
      have e2 := q6.key i
      show (s4.ds.getD i dsk0).key ≤ 0
      rw [e1, e2]; exact hkey13 i)
    have hz := (c4 rfl).1
    rcases c3 with ⟨_, f2, f3⟩ | ⟨f1, _⟩
    · rw [f2, List.take_length] at c2
      exact ⟨by show ((applyS g ⟨s4.ds, ⟨true, 0, s4.pw.steps⟩⟩ PS 0).1 != 0) = false; rw [hz]; rfl, _, h', cut4.redo c2.fromPw, f3⟩
    · rw [hz] at f1; cases f1
  rintro _ ⟨n12, u⟩ w20 ⟨e12, s5, H20, cut5, hon5⟩
  simp only at e12 ⊢
  subst e12
  clear H19
  refine (Cb_false (p := _)).2 ?_
  -- what the set holds then
  have hfin : ∃ nw : Int → Sec, Inv g s5 nw ∧ (∀ l, SecOk (nw l)) ∧ (∀ l, l ≠ k → nw l = sec []) ∧ (nw k = now ∨ (nw k = old ∧ W2.1 ≠ 0)) := by
    have hN : CutS g ⟨s1.ds, { s1.pw with left := cut % 24 + 1 }⟩ s5 P → ∃ nw : Int → Sec, Inv g s5 nw ∧ (∀ l, SecOk (nw l)) ∧ (∀ l, l ≠ k → nw l = sec []) ∧ (nw k = now ∨ (nw k = old ∧ W2.1 ≠ 0)) := fun hs' =>
      ⟨_, hinvN s5 hs', upd_ok hn1 hw k, fun l hl => by unfold upd; rw [if_neg hl, if_neg hl]; rfl, Or.inl (by unfold upd; rw [if_pos rfl])⟩
    by_cases h1 : ia = P.length + 1
    · rw [if_pos h1] at pd1
      subst pd1
      exact hN (q6.redo cut5)
    · rw [if_neg h1] at pd1
      subst pd1
      have hv5 : ∀ i a, 0 ≤ i → 0 ≤ a → viewS s5 i a = viewS W2.2.1 i a := fun i a hi ha => cut5.view i a hi ha
      by_cases h2 : ia = P.length + 2
      · refine hN ⟨cut5.ss, fun i => by rw [cut5.dead, q6.dead], fun i => by rw [cut5.key, q6.key], fun i a hi ha => ?_⟩
        rw [hv5 i a hi ha, q6.view i a hi ha, q8 h2, List.take_length]
      · have hj := q7 (by omega)
        refine ⟨upd now0 k old, hinv13.see hg fun i a hi ha => ?_, hn1, fun l hl => by unfold upd; rw [if_neg hl]; rfl, Or.inr ⟨by unfold upd; rw [if_pos rfl], fun e => h2 (q9 e)⟩⟩
        rw [hv5 i a hi ha, q6.view i a hi ha, hj]
        rfl
  obtain ⟨nw, hi5, hn5, hk5, hkk5⟩ := hfin
  have hXY5 : TwoS g s5 (dead % g.d) ((dead + 1) % g.d) := hXY15.cut cut5
  have hss5 := cut5.ss
  refine failW H20 (x := dead) (by omega) fun w21 H21 => ?_
  have hss6 := failS_ok hss5 hdm0 hdm1
  refine failW H21 (x := dead + 1) (by omega) fun w22 H22 => ?_
  exact readsW H22 (failS_ok hss6 hem0 hem1) hon5 (failS_inv hss6 (failS_inv hss5 hi5 hdm0 hdm1) hem0 hem1) hn5 ((hXY5.fail hss5 hdm0 hdm1 (Or.inl rfl)).fail hss6 hem0 hem1 (Or.inr rfl)) ho hw hk5 hkk5 hK
theorem whole_walk {a b lba cut again dead : Int} {old now : Sec} {fail : Bool} {w : World} (ha : 0 ≤ a ∧ a ≤ 255) (hb : 0 ≤ b ∧ b ≤ 255) (hl : 0 ≤ lba ∧ lba ≤ 255) (hc : 0 ≤ cut ∧ cut ≤ 255) (hg' : 0 ≤ again ∧ again ≤ 255) (hd : 0 ≤ dead ∧ dead ≤ 255) (ho : SecOk old) (hw : SecOk now) :
    CallV Tryz.prog 7 #[.int .u8 a, .int .u8 b, .int .u8 lba, .agg (secV old), .agg (secV now), .int .u8 cut, .int .u8 again, .int .u8 dead, .bool fail] w fun v w' => v = .bool true ∧ Below w.heap.size w w' :=
  whole_walkR ha hb hl hc hg' hd ho hw fun w' k => ⟨rfl, k.below⟩
end Go.Proofs
