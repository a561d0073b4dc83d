/-
  MirrorBoth: the walk.
-/
import Derived.Test.YtjikegaipldnhaaBothP
import Derived.Test.YtjikegaipldnhaaFLaw12B
import Derived.Test.YtjikegaipldnhaaArgs
namespace Go.Proofs
open Go Go.Ev Go.RowKit
set_option linter.unusedSimpArgs false
set_option linter.unusedVariables false
set_option maxRecDepth 100000

section parts
variable {w : World} {q : PB} {s : PS} {R : Value → World → Prop}
theorem PairAt.setM (h : PairAt w q s) {w' : World} {pw : Pow} (k : Keep (fun k => k = q.m) w w') (hm : MaAt w' q.m pw) : PairAt w' q { s with pw := pw } := by
  obtain ⟨pa, la, ca, pb, lb, cb, ha, hb, hne⟩ := h.rams
  have inj : ∀ {k : Nat} {cs : Array Value} {t : TypeId} {f : Nat × Nat}, Has w k (.cells cs t f) → t ≠ 108 → ¬ k = q.m := by
    intro k cs t f h1 ht e
    subst e
    have := h1.inj (show Has w _ _ from h.main)
    simp only [Obj.cells.injEq] at this
    exact ht this.2.1
  have hmap : ¬ q.mp = q.m := by
    obtain ⟨_, arr, clk, hm, _⟩ := h.cache
    intro e
    rw [e] at hm
    cases hm.inj (show Has w _ _ from h.main)
  exact ⟨k.has h.cells (inj h.cells (by decide)), h.cache.keep k (inj h.cache.1 (by decide)) hmap, hm,
    ⟨pa, la, ca, pb, lb, cb, ha.keep k (inj ha.cells (by decide)) (fun k' hk e => by subst e; exact bytes_ne ha.row (show Has w _ _ from h.main) (by decide) hk),
      hb.keep k (inj hb.cells (by decide)) (fun k' hk e => by subst e; exact bytes_ne hb.row (show Has w _ _ from h.main) (by decide) hk), hne⟩, h.ne, h.fit, h.form, h.low⟩
theorem pr_Cut (h : PairAt w q s) {n : Int} (h0 : 0 ≤ n) (h1 : n ≤ 1000000) (hon : s.pw.on = true) (hK : ∀ w', PairAt w' q { s with pw := { s.pw with left := n + 1 } } → Keep (PFoot q w) w w' → R (.int .i64 0) w') :
    CallV Try.prog 13 #[.pointer (some ⟨q.m, 0, none⟩), .int .i64 n] w R :=
  ma_Cut h.main h0 h1 hon fun w' hm k _ => hK w' (h.setM k hm) (k.mono fun _ e => Or.inr (Or.inr (Or.inl e)))
theorem pr_Restore (h : PairAt w q s) (hK : ∀ w', PairAt w' q { s with pw := ⟨true, 0, s.pw.steps⟩ } → Keep (PFoot q w) w w' → R (.tuple #[]) w') :
    CallV Try.prog 15 #[.pointer (some ⟨q.m, 0, none⟩)] w R :=
  ma_Restore h.main fun w' hm k _ => hK w' (h.setM k hm) (k.mono fun _ e => Or.inr (Or.inr (Or.inl e)))
end parts

theorem run_mk64i (w : World) : (Instr.makeSlice 35 (.int .i64 64) (.int .i64 64)).run Try.prog w = .ok (.slice (some ⟨w.heap.size, 0, none⟩) 64 64) (w.alloc (.cells (ofF 64 fun _ => .int .i64 0) 3)) := by
  have hs : ((Try.prog.info? 3).get (by kernel_rfl)).size = 1 := by kernel_rfl
  have hb : ((Try.prog.info? 3).get (by kernel_rfl)).bytes = 8 := by kernel_rfl
  have := run_makeSlice (P := Try.prog) (w := w) 35 3 ((Try.prog.info? 3).get (by kernel_rfl)) (.int .i64 0) (by kernel_rfl) (by kernel_rfl) (by kernel_rfl) .i64 .i64 64 64 (by omega) (by omega)
    (by rw [hs]; decide) (by rw [hb]; decide) (by omega)
  have e : madeCells (Value.int .i64 0).cells ((64 : Int).toNat * ((Try.prog.info? 3).get (by kernel_rfl)).size) = ofF 64 fun _ => .int .i64 0 := by
    rw [hs]; exact madeCells_one _ _
  rw [e] at this
  exact this
theorem run_mk64u (w : World) : (Instr.makeSlice 44 (.int .i64 64) (.int .i64 64)).run Try.prog w = .ok (.slice (some ⟨w.heap.size, 0, none⟩) 64 64) (w.alloc (.cells (ofF 64 fun _ => .int .u64 0) 36)) := by
  have hs : ((Try.prog.info? 36).get (by kernel_rfl)).size = 1 := by kernel_rfl
  have hb : ((Try.prog.info? 36).get (by kernel_rfl)).bytes = 8 := by kernel_rfl
  have := run_makeSlice (P := Try.prog) (w := w) 44 36 ((Try.prog.info? 36).get (by kernel_rfl)) (.int .u64 0) (by kernel_rfl) (by kernel_rfl) (by kernel_rfl) .i64 .i64 64 64 (by omega) (by omega)
    (by rw [hs]; decide) (by rw [hb]; decide) (by omega)
  have e : madeCells (Value.int .u64 0).cells ((64 : Int).toNat * ((Try.prog.info? 36).get (by kernel_rfl)).size) = ofF 64 fun _ => .int .u64 0 := by
    rw [hs]; exact madeCells_one _ _
  rw [e] at this
  exact this
def sLay : Lay (Option Addr × Nat × Nat) := ⟨1, fun h => [.slice h.1 h.2.1 h.2.2], fun _ => rfl, fun y v hv => by rw [List.mem_singleton.1 hv]; rfl, by decide⟩
theorem bsl_s2 (p1 p2 : Option Addr) (l1 c1 l2 c2 : Nat) (w : World) : (Instr.buildSlice 43 2 #[(0, .slice p1 l1 c1), (1, .slice p2 l2 c2)]).run Try.prog w = .ok (.slice (some ⟨w.heap.size, 0, none⟩) 2 2) (w.alloc (.cells #[.slice p1 l1 c1, .slice p2 l2 c2] 41)) :=
  run_buildSlice w 43 41 2 _ #[.slice p1 l1 c1, .slice p2 l2 c2] ((Try.prog.info? 41).get (by kernel_rfl)) (((Try.prog.info? 41).get (by kernel_rfl)).zero.get (by kernel_rfl)) (by kernel_rfl) (by kernel_rfl) (by kernel_rfl) (by decide +kernel) (by decide +kernel) (by kernel_rfl)
def rowM (l : List Rec) : Nat → Value := fun j => .int .i64 (mx l j 0)
def rowU (l : List Rec) : Nat → Value := fun j => .int .u64 (mx l j 0)

/-! ### a put, as it is printed -/
def BoPut (lp : Option Addr) (ll : Nat) (p : Option Addr) (l b3 : Nat) (op i sd : Int) (w : World) (R : Value → World → Prop) (K1 : Int × Int × Unit → World → Prop) : Prop :=
  IdxS lp ll i 1 fun b5 o5 => LdV b5 o5 (At w) fun v14 => OpI .u8 v14 fun n4 => Req ((64 : Int) ≠ 0) (DoQ Try.prog (Instr.build 40 #[(0, .int
  .u8 (IntKind.wrap .u8 i)), (1, .int .u8 (IntKind.wrap .u8 (Int.tmod (IntKind.wrap .i64 n4) 64)))]) (At w) fun v15 => OpA 16 v15 fun cs => CallV Try.prog 14 #[.pointer
  (some ⟨b3, 0, none⟩), .int .i64 sd, .int .i64 (Int.tmod (IntKind.wrap .i64 n4) 64), .agg cs] w fun v16 w => T2 v16 fun v17 v18 => OpI .u64 v17 fun n5 => OpI .i64 v18
  fun n6 => Cb (n6 == 0) (IdxS p l (Int.tmod (IntKind.wrap .i64 n4) 64) 1 fun b6 o6 => StV b6 o6 (.int .i64 (IntKind.wrap .i64 (i + 1))) w fun w => K1 (op,
  (IntKind.wrap .i64 (i + 1), ())) w) (K1 (i, (IntKind.wrap .i64 (i + 1), ())) w))
section puts
variable {w w3 : World} {q : PB} {s : PS} {R : Value → World → Prop} {K1 : Int × Int × Unit → World → Prop}
theorem boPut {lp : Option Addr} {ll bl n : Nat} {ls : List Int} {f : Bool} (hl : SlL byLay w3 lp ll ls) (hby : By ls) (hn : n < ll) (hn2 : n < 200) (hp : PairAt w3 q s) (hro : q.room = 64) (hsz : q.sz = 30000) (hg : Good12 ls s n)
    (hrow : Has w3 bl (.cells (ofF 64 (rowM (recsB ls n))) 3 (0, 0)))
    (hK : ∀ (w' : World) (s' : PS) (op : Int) (m : Nat), PairAt w' q s' → Has w' bl (.cells (ofF 64 (rowM (recsB ls m))) 3 (0, 0)) → Keep (fun k => PFoot q w3 k ∨ k = bl) w3 w' →
      ((op = -1 ∧ m = n + 1 ∧ Good12 ls s' (n + 1)) ∨ (op = n ∧ m = n ∧ End12 ls s'.xa s'.xb n n)) → K1 (op, ((n + 1 : Nat) : Int), ()) w') :
    BoPut lp ll (some ⟨bl, 0, none⟩) 64 q.p (-1) n (sideN f) w3 R K1 := by
  unfold BoPut
  have hll := hl.1
  have hget := getD_at (xs := ls) (i := n) (by omega) 0
  have hb := hby (ls.getD n 0) (List.mem_of_getElem? hget)
  refine hl.ld0 (i := (n : Int)) (n := 1) (x := ls.getD n 0) (v := .int .u8 (ls.getD n 0)) rfl (by omega) hget rfl ?_
  refine OpI_int.2 ⟨by decide, ?_⟩
  have hw : IntKind.wrap .i64 (ls.getD n 0) = ls.getD n 0 := wrapI (by omega) (by omega)
  have ht : Int.tmod (IntKind.wrap .i64 (ls.getD n 0)) 64 = lbAt ls n := by rw [hw, Int.tmod_eq_emod_of_nonneg (by omega)]; rfl
  rw [ht]
  have hlb := lbAt_lt ls n
  have e1 : IntKind.wrap .u8 (n : Int) = (n : Int) := wrapU8 (by omega) (by omega)
  have e2 : IntKind.wrap .u8 (lbAt ls n) = lbAt ls n := wrapU8 (by omega) (by omega)
  have e3 : IntKind.wrap .i64 ((n : Int) + 1) = ((n + 1 : Nat) : Int) := by rw [wrapI (by omega) (by omega)]; omega
  rw [e1, e2, e3]
  refine DoQ_of (v := .agg (secV (recB ls n).data)) (fun d => run_build _ _ _ _ (by kernel_rfl)) ?_
  refine OpA_agg.2 ⟨rfl, ?_⟩
  refine pr_Put hp f fun w4 hp4 k4 => ?_
  rw [hro, hsz] at hp4 ⊢
  refine T2_mk.2 (OpI_int.2 (OpI_int.2 ?_))
  have hr4 : Has w4 bl (.cells (ofF 64 (rowM (recsB ls n))) 3 (0, 0)) := PFoot.has k4 hrow (by decide) hp (by decide) (by decide) (by decide)
  have kk : Keep (fun k => PFoot q w3 k ∨ k = bl) w3 w4 := k4.mono fun _ h => Or.inl h
  rcases put12 hg hn2 hp.cache.keysNd f with ⟨hz, hg'⟩ | ⟨hz, he⟩
  · rw [hz]
    refine (Cb_true (q := _)).2 ?_
    refine (st_own hr4 (by omega) (by omega)).2 ⟨rfl, ?_⟩
    have er : (fun j => if j = (lbAt ls n).toNat then Value.int .i64 ((n + 1 : Nat) : Int) else rowM (recsB ls n) j) = rowM (recsB ls (n + 1)) := by
      funext j
      show _ = Value.int .i64 (mB ls (n + 1) j)
      rw [mB_succ]
      by_cases hj : j = (lbAt ls n).toNat
      · rw [if_pos hj, if_pos (by omega)]; rfl
      · rw [if_neg hj, if_neg (by omega)]; rfl
    rw [er]
    refine hK _ _ (-1) (n + 1) ?_ (hr4.upd_same _) (kk.upd (fun _ => Or.inr rfl) _) (Or.inl ⟨rfl, rfl, hg'⟩)
    -- the store is in none of the pair's blocks
    have k5 := Keep.one w4 bl (.cells (ofF 64 (rowM (recsB ls (n + 1)))) 3 (0, 0))
    obtain ⟨pa, la, ca, pb, lb, cb, ha, hb', hne⟩ := hp4.rams
    have inj : ∀ {k : Nat} {cs : Array Value} {t : TypeId} {f : Nat × Nat}, Has w4 k (.cells cs t f) → t ≠ 3 → ¬ k = bl := by
      intro k cs t f h1 ht e
      subst e
      have := h1.inj hr4
      simp only [Obj.cells.injEq] at this
      exact ht this.2.1
    have hmap : ¬ q.mp = bl := by
      obtain ⟨_, arr, clk, hm, _⟩ := hp4.cache
      intro e
      rw [e] at hm
      cases hm.inj hr4
    exact ⟨k5.has hp4.cells (inj hp4.cells (by decide)), hp4.cache.keep k5 (inj hp4.cache.1 (by decide)) hmap, k5.has hp4.main (inj (show Has w4 _ _ from hp4.main) (by decide)),
      ⟨pa, la, ca, pb, lb, cb, ha.keep k5 (inj ha.cells (by decide)) (fun k' hk e => by subst e; exact bytes_ne ha.row hr4 (by decide) hk),
        hb'.keep k5 (inj hb'.cells (by decide)) (fun k' hk e => by subst e; exact bytes_ne hb'.row hr4 (by decide) hk), hne⟩, hp4.ne, hp4.fit, hp4.form, hp4.low⟩
  · have hz' : ((putP 64 30000 s f (lbAt ls n) (recB ls n).data).1.2 == 0) = false := beq_eq_false_iff_ne.2 hz
    rw [hz']
    refine (Cb_false (p := _)).2 ?_
    exact hK _ _ n n hp4 hr4 kk (Or.inr ⟨rfl, rfl, he⟩)
end puts

/-! ### the records of the lists -/
def BoRec (p7 : Option Addr) (l8 : Nat) (p4 : Option Addr) (l5 : Nat) (p5 : Option Addr) (l6 : Nat) (t : Int) (w : World) (R : Value → World → Prop) (K6 : Int × Unit → World → Prop) : Prop :=
  IdxS p7 l8 t 19 fun b11 o11 => LdA 19 b11 o11 (At w) fun cs2 => Alc 46 (zc Try.prog 46) w fun b12 w => StA 19 b12 0 cs2 w fun w => LdV b12 0 (At
  w) fun v32 => OpI .i64 v32 fun n10 => Cb (n10 != 1) (Ret [] (R (.bool false) w)) (LdV b12 2 (At w) fun v33 => OpI .i64 v33 fun n11 => Cb (decide (n11 < 0)) (Ret [] (R
  (.bool false) w)) (LdV b12 2 (At w) fun v34 => OpI .i64 v34 fun n12 => Cb (decide (n12 > 63)) (Ret [] (R (.bool false) w)) (LdV b12 1 (At w) fun v35 => OpI .u64 v35 fun
  n13 => LdV b12 2 (At w) fun v36 => OpI .i64 v36 fun n14 => IdxS p5 l6 n14 1 fun b13 o12 => LdV b13 o12 (At w) fun v37 => OpI .u64 v37 fun n15 => Drw w fun w => Cb (decide
  (n13 ≥ n15)) (LdV b12 2 (At w) fun v38 => OpI .i64 v38 fun n16 => LdV b12 1 (At w) fun v39 => OpI .u64 v39 fun n17 => IdxS p5 l6 n16 1 fun b14 o13 => StV b14 o13 (.int
  .u64 n17) w fun w => LdV b12 2 (At w) fun v40 => OpI .i64 v40 fun n18 => Req (0 ≤ (0 : Int) ∧ (0 : Int) < 16) (LdV b12 (3 + Int.toNat 0 * 1) (At w) fun v41 => OpI .u8 v41
  fun n19 => IdxS p4 l5 n18 1 fun b15 o14 => StV b15 o14 (.int .i64 (IntKind.wrap .i64 ((IntKind.wrap .i64 n19) + 1))) w fun w => K6 (IntKind.wrap .i64 (t + 1), ()) w))
  (K6 (IntKind.wrap .i64 (t + 1), ()) w))))
section recs
variable {w : World} {R : Value → World → Prop} {K6 : Int × Unit → World → Prop}
theorem boRec {p7 : Option Addr} {l8 c8 b0 bf bt t i : Nat} {ls : List Int} {rs pre : List Rec} (ho : OwnL rLay w b0 46 p7 l8 c8 rs) (ht : rs[t]? = some (recB ls i)) (hi : i < 200) (ht2 : t < 100000)
    (hf : Has w bf (.cells (ofF 64 (rowM pre)) 3 (0, 0))) (hu : Has w bt (.cells (ofF 64 (rowU pre)) 36 (0, 0)))
    (hK : ∀ w', Has w' bf (.cells (ofF 64 (rowM (pre ++ [recB ls i]))) 3 (0, 0)) → Has w' bt (.cells (ofF 64 (rowU (pre ++ [recB ls i]))) 36 (0, 0)) → Keep (fun k => k = bf ∨ k = bt) w w' → K6 (((t + 1 : Nat) : Int), ()) w') :
    BoRec p7 l8 (some ⟨bf, 0, none⟩) 64 (some ⟨bt, 0, none⟩) 64 t w R K6 := by
  unfold BoRec
  have hlb := lbAt_lt ls i
  have e3 : IntKind.wrap .i64 ((t : Int) + 1) = ((t + 1 : Nat) : Int) := by rw [wrapI (by omega) (by omega)]; omega
  rw [e3]
  refine ho.ldA (i := (t : Int)) (n := 19) (x := recB ls i) rfl (by omega) (by simpa using ht) ?_
  refine copy_of zc_rc rfl (one_recV (recB ls i)) fun w1 hb k1 z1 => ?_
  have hb : Has w1 w.heap.size (.cells (recV (recB ls i)) 46 (0, 0)) := hb
  refine LdV_has (v := .int .i64 1) hb rfl (OpI_int.2 ((Cb_false (p := _)).2 ?_))
  refine LdV_has (v := .int .i64 (lbAt ls i)) hb rfl (OpI_int.2 ?_)
  rw [decide_eq_false (show ¬ lbAt ls i < 0 by omega)]
  refine (Cb_false (p := _)).2 ?_
  refine LdV_has (v := .int .i64 (lbAt ls i)) hb rfl (OpI_int.2 ?_)
  rw [decide_eq_false (show ¬ lbAt ls i > 63 by omega)]
  refine (Cb_false (p := _)).2 ?_
  refine LdV_has (v := .int .u64 ((i : Int) + 1)) hb rfl (OpI_int.2 ?_)
  refine LdV_has (v := .int .i64 (lbAt ls i)) hb rfl (OpI_int.2 ?_)
  have hu1 := k1.has hu (by simp)
  have hf1 := k1.has hf (by simp)
  refine (ld_own hu1 (by omega) (by omega)).2 ?_
  have ej : (((lbAt ls i).toNat : Nat) : Int) = lbAt ls i := by omega
  show OpI .u64 (Value.int .u64 (mx pre (((lbAt ls i).toNat : Nat) : Int) 0)) _
  rw [ej]
  refine OpI_int.2 fun d => ?_
  have emx : ∀ j : Int, mx (pre ++ [recB ls i]) j 0 = if lbAt ls i = j then max (mx pre j 0) ((i : Int) + 1) else mx pre j 0 := fun j => by rw [mx_append]; rfl
  have hne : bf ≠ bt := hf.ne hu (by simp only [ne_eq, Obj.cells.injEq]; intro h; exact absurd h.2.1 (by decide))
  refine Cb_of (fun hc => ?_) (fun hc => ?_)
  · have hc : mx pre (lbAt ls i) 0 ≤ (i : Int) + 1 := by simpa using hc
    refine LdV_has (v := .int .i64 (lbAt ls i)) (hb.dr d) rfl (OpI_int.2 ?_)
    refine LdV_has (v := .int .u64 ((i : Int) + 1)) (hb.dr d) rfl (OpI_int.2 ?_)
    refine (st_own (hu1.dr d) (by omega) (by omega)).2 ⟨rfl, ?_⟩
    have eu : (fun j => if j = (lbAt ls i).toNat then Value.int .u64 ((i : Int) + 1) else rowU pre j) = rowU (pre ++ [recB ls i]) := by
      funext j
      show _ = Value.int .u64 (mx (pre ++ [recB ls i]) j 0)
      rw [emx]
      by_cases hj : j = (lbAt ls i).toNat
      · have e : lbAt ls i = (j : Int) := by omega
        rw [if_pos hj, if_pos e, ← e]; congr 1; omega
      · rw [if_neg hj, if_neg (by omega)]; rfl
    rw [eu]
    have hbt : w.heap.size ≠ bt := by have := hu.lt; omega
    have hb2 := Has.upd (y := .cells (ofF 64 (rowU (pre ++ [recB ls i]))) 36 (0, 0)) (hb.dr d) hbt
    have hu2 := (hu1.dr d).upd_same (.cells (ofF 64 (rowU (pre ++ [recB ls i]))) 36 (0, 0))
    have hf2 := Has.upd (y := .cells (ofF 64 (rowU (pre ++ [recB ls i]))) 36 (0, 0)) (hf1.dr d) hne
    have k2 : Keep (fun k => k = bf ∨ k = bt) w ((w1.dr d).upd bt (.cells (ofF 64 (rowU (pre ++ [recB ls i]))) 36 (0, 0))) := ((k1.mono (fun _ h => h.elim)).dr d).upd (fun _ => Or.inr rfl) _
    generalize (w1.dr d).upd bt (.cells (ofF 64 (rowU (pre ++ [recB ls i]))) 36 (0, 0)) = w2 at *
    refine LdV_has (v := .int .i64 (lbAt ls i)) hb2 rfl (OpI_int.2 ?_)
    refine ⟨by decide, ?_⟩
    refine LdV_has (v := .int .u8 (i : Int)) hb2 rfl (OpI_int.2 ?_)
    have e5 : IntKind.wrap .i64 (IntKind.wrap .i64 (i : Int) + 1) = (i : Int) + 1 := by rw [wrapI (x := (i : Int)) (by omega) (by omega), wrapI (by omega) (by omega)]
    rw [e5]
    refine (st_own hf2 (by omega) (by omega)).2 ⟨rfl, ?_⟩
    have ef : (fun j => if j = (lbAt ls i).toNat then Value.int .i64 ((i : Int) + 1) else rowM pre j) = rowM (pre ++ [recB ls i]) := by
      funext j
      show _ = Value.int .i64 (mx (pre ++ [recB ls i]) j 0)
      rw [emx]
      by_cases hj : j = (lbAt ls i).toNat
      · have e : lbAt ls i = (j : Int) := by omega
        rw [if_pos hj, if_pos e, ← e]; congr 1; omega
      · rw [if_neg hj, if_neg (by omega)]; rfl
    rw [ef]
    exact hK _ (hf2.upd_same _) (hu2.upd hne.symm) (k2.upd (fun _ => Or.inl rfl) _)
  · have hc : ¬ mx pre (lbAt ls i) 0 ≤ (i : Int) + 1 := by simpa using hc
    have ee : ∀ j : Int, mx (pre ++ [recB ls i]) j 0 = mx pre j 0 := by
      intro j
      rw [emx]
      split
      · rename_i h; rw [← h]; omega
      · rfl
    have e1 : rowM (pre ++ [recB ls i]) = rowM pre := by funext j; show Value.int .i64 _ = Value.int .i64 _; rw [ee]
    have e2 : rowU (pre ++ [recB ls i]) = rowU pre := by funext j; show Value.int .u64 _ = Value.int .u64 _; rw [ee]
    refine hK _ (by rw [e1]; exact hf1.dr d) (by rw [e2]; exact hu1.dr d) ((k1.mono (fun _ h => h.elim)).dr d)
end recs

/-! ### a sector's check -/
def BoChk (p4 : Option Addr) (l5 : Nat) (p : Option Addr) (l : Nat) (k : Int) (late : Bool) (w : World) (R : Value → World → Prop) (K7 : Int × Unit → World → Prop) : Prop :=
  IdxS p4 l5 k 1 fun b18 o17 => LdV b18 o17 (At w) fun v44 => OpI .i64
  v44 fun n22 => IdxS p l k 1 fun b19 o18 => LdV b19 o18 (At w) fun v45 => OpI .i64 v45 fun n23 => Req True (Req True
  (Drw w fun w => Cb (cond (n22 != n23) (!late) false) (Ret [] (R (.bool false) w)) (K7 (IntKind.wrap .i64 (k + 1), ()) w)))
theorem boChk {w : World} {R : Value → World → Prop} {K7 : Int × Unit → World → Prop} {bf bl k : Nat} {late : Bool} {A B : List Rec} (hf : Has w bf (.cells (ofF 64 (rowM A)) 3 (0, 0))) (hl : Has w bl (.cells (ofF 64 (rowM B)) 3 (0, 0)))
    (hk : k < 64) (h : mx A k 0 = mx B k 0 ∨ late = true) (hK : ∀ d, K7 (((k + 1 : Nat) : Int), ()) (w.dr d)) : BoChk (some ⟨bf, 0, none⟩) 64 (some ⟨bl, 0, none⟩) 64 k late w R K7 := by
  unfold BoChk
  have e3 : IntKind.wrap .i64 ((k : Int) + 1) = ((k + 1 : Nat) : Int) := by rw [wrapI (by omega) (by omega)]; omega
  rw [e3]
  refine (ld_own hf (by omega) (by omega)).2 ?_
  refine OpI_int.2 ?_
  refine (ld_own hl (by omega) (by omega)).2 ?_
  refine OpI_int.2 ⟨trivial, trivial, fun d => ?_⟩
  rw [Int.toNat_natCast]
  have : (cond (mx A k 0 != mx B k 0) (!late) false) = false := by
    rcases h with h | h
    · rw [h]; simp
    · rw [h]; simp
  rw [this]
  exact (Cb_false (p := _)).2 (hK d)
end Go.Proofs
