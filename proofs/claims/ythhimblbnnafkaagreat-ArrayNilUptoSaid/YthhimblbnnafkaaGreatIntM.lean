/-
  THE JOURNAL: missing, each, Begin, End, at one memory that has room and power; the cells of a group.
-/
import Derived.Test.YthhimblbnnafkaaGreatIntP
import Derived.Test.YthhimblbnnafkaaGreatRam
import Derived.Test.YthhimblbnnafkaaGreatConcatI
import Derived.Test.YthhimblbnnafkaaGreatRows1
import Derived.Test.YthhimblbnnafkaaGreatFIntent
namespace Go.Proofs
open Go Go.Ev Go.RowKit
set_option linter.unusedSimpArgs false
set_option linter.unusedVariables false
set_option maxRecDepth 100000

def stepsN : Nat → Pow → Pow
  | 0, p => p
  | n + 1, p => (stepP (stepsN n p)).2
theorem stepsN_lit {p : Pow} (h : Lit0 p) : ∀ n, Lit0 (stepsN n p)
  | 0 => h
  | n + 1 => (lit_step (stepsN_lit h n)).2
theorem stepsN_steps {p : Pow} (h : Lit0 p) (h0 : 0 ≤ p.steps) : ∀ n : Nat, p.steps + n < 4611686018427387904 → (stepsN n p).steps = p.steps + n
  | 0, _ => by show p.steps = p.steps + ((0 : Nat) : Int); omega
  | n + 1, hn => by
    have ih := stepsN_steps h h0 n (by omega)
    show (stepP (stepsN n p)).2.steps = _
    rw [steps_wrap (stepsN_lit h n) (by omega) (by omega), ih]
    omega
theorem appP_ok {pw : Pow} {size : Int} {bs : List Int} {x : Rec} (h : Lit0 pw) (hr : (bs.length : Int) + 37 ≤ size) : appP pw size bs x = (0, (stepP pw).2, bs ++ packB x) := by
  unfold appP
  rw [if_neg (by rw [h.1]; decide), if_neg (by omega), if_neg (by rw [(lit_step h).1]; decide)]
theorem len_pk (x : Rec) : (packB x).length = 37 := rfl
/-- how a memory's row may move -/
structure RK (w w' : World) (m r : Nat) (p p' : Option Addr) : Prop where
  keep : Keep (fun k => k = m ∨ k = r ∨ p = some ⟨k, 0, none⟩) w w'
  row : p' = p ∨ ∃ k, w.heap.size ≤ k ∧ p' = some ⟨k, 0, none⟩
theorem RK.refl (w : World) (m r : Nat) (p : Option Addr) : RK w w m r p p := ⟨Keep.refl _ _, Or.inl rfl⟩
theorem RK.of0 {w w' : World} {m r : Nat} {p : Option Addr} (k : Keep (fun _ => False) w w') : RK w w' m r p p := ⟨k.mono fun _ h => h.elim, Or.inl rfl⟩
theorem RK.trans {w w1 w2 : World} {m r : Nat} {p p1 p2 : Option Addr} (h : RK w w1 m r p p1) (k : RK w1 w2 m r p1 p2) : RK w w2 m r p p2 := by
  refine ⟨h.keep.trans' k.keep fun i hi e => ?_, ?_⟩
  · rcases e with e | e | e
    · exact Or.inl e
    · exact Or.inr (Or.inl e)
    · rcases h.row with h' | ⟨k', h1, h2⟩
      · rw [h'] at e; exact Or.inr (Or.inr e)
      · rw [h2] at e; cases e; omega
  · rcases k.row with k' | ⟨i, h1, h2⟩
    · rw [k']; exact h.row
    · exact Or.inr ⟨i, Nat.le_trans h.keep.size h1, h2⟩
section calls
variable {w : World} {R : Value → World → Prop} {base m r : Nat} {size : Int} {p : Option Addr} {l c : Nat} {bs : List Int} {pw : Pow} {rp : Option Addr} {rc : Nat}
theorem i_missing {rs : List Nat} {rl : Nat} (h : SlL dLay w rp rl rs) (hl : rl ≤ 1000000) (hK : R (.bool false) w) : CallV Tryz.prog 199 #[.slice rp rl rc] w R := by
  apply C_intent_missing
  unfold F_intent_missing
  apply C_ContainsNil
  unfold F_ContainsNil
  apply C_IndexNil
  unfold F_IndexNil
  have hlen := h.1
  refine LoopC_of (σ := Int × Unit) (fun st w' => w' = w ∧ ∃ i : Nat, st.1 = (i : Int) ∧ i ≤ rl) (fun st _ => ((rl : Int) - st.1).toNat) ⟨rfl, 0, rfl, by omega⟩ ?_
  rintro _ ⟨i, u⟩ w1 ⟨rfl, i', hi, hil⟩
  simp only at hi ⊢
  subst hi
  refine Cb_of (fun hc => ?_) (fun hc => ?_)
  · have hc : i' < rl := by
      have : (i' : Int) < (rl : Int) := by simpa using hc
      omega
    have ek : IntKind.wrap .i64 ((i' : Int) + 1) = ((i' + 1 : Nat) : Int) := by rw [wrapI (by omega) (by omega)]; omega
    obtain ⟨y, hy⟩ : ∃ y, rs[i']? = some y := ⟨_, List.getElem?_eq_getElem (by omega)⟩
    refine h.ld0 (i := (i' : Int)) (n := 1) (x := y) (v := .pointer (some ⟨y, 0, none⟩)) rfl (by omega) (by rw [Int.toNat_natCast]; exact hy) rfl (OpN_some.2 ?_)
    exact ⟨_, by show ((rl : Int) - IntKind.wrap .i64 ((i' : Int) + 1)).toNat < ((rl : Int) - (i' : Int)).toNat; rw [ek]; omega, ⟨by first | rfl | trivial, i' + 1, ek, by omega⟩, rfl⟩
  · exact Ret_nil.2 (OpI_int.2 (Ret_nil.2 (OpB_bool.2 (Ret_nil.2 hK))))
theorem i_each1 {x : Rec} (h : RaAt w base m r size p l c bs) (hm : MaAt w m pw) (hx : recGood x = true) (hs : 37 ≤ size) (hs2 : size ≤ 65536) (hl : (l : Int) ≤ size) (hb : base ≤ w.heap.size) (hr : SlL dLay w rp 1 [r])
    (hK : ∀ p' l' c' w', RaAt w' base m r size p' l' c' (appP pw size bs x).2.2 → MaAt w' m (appP pw size bs x).2.1 → RK w w' m r p p' → R (.int .i64 (appP pw size bs x).1) w') :
    CallV Tryz.prog 200 #[.slice rp 1 rc, .agg (recV x)] w R := by
  apply C_intent_each
  unfold F_intent_each
  refine alc_fresh fun w1 hb1 k1 z1 => ?_
  have h1 : RaAt w1 base m r size p l c bs := ⟨k1.has h.cells (by simp), h.row.keep k1 (by simp)⟩
  have hm1 : MaAt w1 m pw := k1.has hm (by simp)
  refine LoopC_of (σ := Int × Unit) (fun st w' => (st.1 = 0 ∧ w' = w1) ∨ (st.1 = 1 ∧ (appP pw size bs x).1 = 0 ∧ ∃ p' l' c', RaAt w' base m r size p' l' c' (appP pw size bs x).2.2 ∧ MaAt w' m (appP pw size bs x).2.1 ∧ RK w w' m r p p')) (fun st _ => (1 - st.1).toNat) (Or.inl ⟨rfl, rfl⟩) ?_
  rintro _ ⟨i, u⟩ w2 (⟨hi, rfl⟩ | ⟨hi, he, p', l', c', h2, hm2, hk2⟩)
  · simp only at hi ⊢
    subst hi
    refine (Cb_true (q := _)).2 ?_
    refine (hr.keepB k1 (by simp)).ld0 (i := 0) (n := 1) (x := r) (v := .pointer (some ⟨r, 0, none⟩)) rfl (by omega) rfl rfl (OpN_some.2 ?_)
    refine LdA_all hb1 rfl ?_
    refine ra_Append h1 hm1 hx hs hs2 hl (by omega) fun p' l' c' w3 h3 hm3 hrow k3 => OpI_int.2 ?_
    have hk3 : RK w w3 m r p p' := (RK.of0 k1).trans ⟨k3, hrow⟩
    refine Cb_of (fun _ => Ret_nil.2 (hK p' l' c' w3 h3 hm3 hk3)) (fun e => ?_)
    have e : (appP pw size bs x).1 = 0 := by simpa using e
    exact ⟨_, by show (1 - IntKind.wrap .i64 ((0 : Int) + 1)).toNat < (1 - (0 : Int)).toNat; decide, Or.inr ⟨by first | rfl | trivial, e, p', l', c', h3, hm3, hk3⟩, rfl⟩
  · simp only at hi ⊢
    subst hi
    refine (Cb_false (p := _)).2 (Ret_nil.2 ?_)
    rw [← he]
    exact hK p' l' c' w2 h2 hm2 hk2
def recI (v : Int) (x : PutS) : Rec := ⟨3, v, x.plc.dk * 1024 + x.plc.at_, x.cel.data⟩
def recK (k v : Int) : Rec := ⟨k, v, 0, sec []⟩
theorem bld_rk (k v : Int) (w : World) : (Instr.build 246 #[(0, .int .i64 k), (1, .int .u64 v)]).run Tryz.prog w = .ok (.agg (recV (recK k v))) w := run_build _ _ _ _ (by kernel_rfl)
theorem zc_pu : (zc Tryz.prog 88).size = 19 := by kernel_rfl
theorem pu_dat (x : PutS) : (putSV x).extract 2 (2 + 16) = secV x.cel.data := by kernel_rfl
theorem pu_dk (x : PutS) : (putSV x)[0]? = some (.int .i64 x.plc.dk) := rfl
theorem pu_row (x : PutS) : (puLay.row x).toArray = putSV x := by kernel_rfl
def InR (x : PutS) : Prop := (0 ≤ x.plc.dk ∧ x.plc.dk < 32) ∧ (0 ≤ x.plc.at_ ∧ x.plc.at_ < 1024)
theorem i_Begin1 {v : Int} {pp : Option Addr} {pl pc : Nat} {xs : List PutS} (h : RaAt w base m r size p l c bs) (hm : MaAt w m pw) (hlit : Lit0 pw) (hs : 37 ≤ size) (hs2 : size ≤ 65536) (hroom : (bs.length : Int) + 37 * ((pl : Int) + 1) ≤ size) (hb : base ≤ w.heap.size) (hr : SlL dLay w rp 1 [r])
    (hrm : ∀ b o, rp = some ⟨b, o, none⟩ → b ≠ m ∧ b ≠ r ∧ p ≠ some ⟨b, 0, none⟩) (hps : SlL puLay w pp pl xs) (hpm : ∀ b o, pp = some ⟨b, o, none⟩ → b ≠ m ∧ b ≠ r ∧ p ≠ some ⟨b, 0, none⟩) (hin : ∀ x ∈ xs, InR x)
    (hK : ∀ p' l' c' w', RaAt w' base m r size p' l' c' (bs ++ (xs.map (recI v) ++ [recK 4 v]).flatMap packB) → MaAt w' m (stepsN (pl + 1) pw) → RK w w' m r p p' → R (.int .i64 0) w') :
    CallV Tryz.prog 131 #[.slice rp 1 rc, .int .u64 v, .slice pp pl pc] w R := by
  apply C_intent_Begin
  unfold F_intent_Begin
  have hlen := hps.1
  refine i_missing hr (by omega) (OpB_bool.2 ((Cb_false (p := _)).2 ?_))
  -- all of them have a place
  refine LoopC_of (σ := Int × Unit) (fun st w' => ∃ i : Nat, st.1 = (i : Int) ∧ i ≤ pl ∧ Keep (fun _ => False) w w') (fun st _ => ((pl : Int) - st.1).toNat) ⟨0, rfl, by omega, Keep.refl _ _⟩ ?_
  rintro _ ⟨i, u⟩ w1 ⟨i', hi, hil, k1⟩
  simp only at hi ⊢
  subst hi
  refine Cb_of (fun hc => ?_) (fun hc => ?_)
  · have hc : i' < pl := by
      have : (i' : Int) < (pl : Int) := by simpa using hc
      omega
    have ek : IntKind.wrap .i64 ((i' : Int) + 1) = ((i' + 1 : Nat) : Int) := by rw [wrapI (by omega) (by omega)]; omega
    obtain ⟨x, hx⟩ : ∃ x, xs[i']? = some x := ⟨_, List.getElem?_eq_getElem (by omega)⟩
    have hxr := hin x (List.mem_of_getElem? hx)
    refine (hps.keepB k1 (by simp)).ldA (i := (i' : Int)) (n := 19) (x := x) rfl (by omega) (by rw [Int.toNat_natCast]; exact hx) ?_
    rw [pu_row]
    refine copy_of zc_pu rfl (one_putSL x) fun w2 hb2 k2 z2 => ?_
    refine LdV_has (v := .int .i64 x.plc.dk) hb2 rfl (OpI_int.2 ?_)
    rw [decide_eq_false (show ¬ x.plc.dk < 0 by have := hxr.1; omega)]
    refine (Cb_false (p := _)).2 ?_
    refine LdV_has (v := .int .i64 x.plc.dk) hb2 rfl (OpI_int.2 ?_)
    rw [decide_eq_false (show ¬ x.plc.dk ≥ 32 by have := hxr.1; omega)]
    refine (Cb_false (p := _)).2 ?_
    refine LdV_has (v := .int .i64 x.plc.at_) hb2 rfl (OpI_int.2 ?_)
    rw [decide_eq_false (show ¬ x.plc.at_ < 0 by have := hxr.2; omega)]
    refine (Cb_false (p := _)).2 ?_
    refine LdV_has (v := .int .i64 x.plc.at_) hb2 rfl (OpI_int.2 ?_)
    rw [decide_eq_false (show ¬ x.plc.at_ ≥ 1024 by have := hxr.2; omega)]
    refine (Cb_false (p := _)).2 ?_
    exact ⟨_, by show ((pl : Int) - IntKind.wrap .i64 ((i' : Int) + 1)).toNat < ((pl : Int) - (i' : Int)).toNat; rw [ek]; omega, ⟨i' + 1, ek, by omega, k1.trans k2⟩, rfl⟩
  · clear hc
    -- one by one
    refine LoopC_of (σ := Int × Unit) (fun st w' => ∃ (i : Nat) (p' : Option Addr) (l' c' : Nat), st.1 = (i : Int) ∧ i ≤ pl ∧ RaAt w' base m r size p' l' c' (bs ++ ((xs.take i).map (recI v)).flatMap packB) ∧ MaAt w' m (stepsN i pw) ∧ RK w w' m r p p') (fun st _ => ((pl : Int) - st.1).toNat)
      ⟨0, p, l, c, rfl, by omega, by simpa using (⟨k1.has h.cells (by simp), h.row.keep k1 (by simp)⟩ : RaAt w1 base m r size p l c bs), k1.has hm (by simp), RK.of0 k1⟩ ?_
    rintro _ ⟨j, u⟩ w2 ⟨j', p', l', c', hj, hjl, h2, hm2, hk2⟩
    simp only at hj ⊢
    subst hj
    have hpk : ∀ ys : List Rec, (ys.flatMap packB).length = 37 * ys.length := fun ys => by
      induction ys with
      | nil => rfl
      | cons y ys ih => rw [List.flatMap_cons, List.length_append, len_pk, ih, List.length_cons]; omega
    have hll : (l' : Int) = (bs.length : Int) + 37 * (j' : Int) := by
      have e := h2.row.length
      rw [List.length_append, hpk, List.length_map, List.length_take, Nat.min_eq_left (by omega)] at e
      omega
    have hps2 : SlL puLay w2 pp pl xs := hps.keep hk2.keep fun b o hb e => by
      obtain ⟨q1, q2, q3⟩ := hpm b o hb
      rcases e with e | e | e
      · exact q1 e
      · exact q2 e
      · exact q3 e
    have hr2 : SlL dLay w2 rp 1 [r] := hr.keep hk2.keep fun b o hb e => by
      obtain ⟨q1, q2, q3⟩ := hrm b o hb
      rcases e with e | e | e
      · exact q1 e
      · exact q2 e
      · exact q3 e
    have hb2 : base ≤ w2.heap.size := Nat.le_trans hb hk2.keep.size
    refine Cb_of (fun hc => ?_) (fun hc => ?_)
    · have hc : j' < pl := by
        have : (j' : Int) < (pl : Int) := by simpa using hc
        omega
      have ek : IntKind.wrap .i64 ((j' : Int) + 1) = ((j' + 1 : Nat) : Int) := by rw [wrapI (by omega) (by omega)]; omega
      obtain ⟨x, hx⟩ : ∃ x, xs[j']? = some x := ⟨_, List.getElem?_eq_getElem (by omega)⟩
      have hxr := hin x (List.mem_of_getElem? hx)
      obtain ⟨⟨x1, x2⟩, x3, x4⟩ := hxr
      refine hps2.ldA (i := (j' : Int)) (n := 19) (x := x) rfl (by omega) (by rw [Int.toNat_natCast]; exact hx) ?_
      rw [pu_row]
      refine copy_of zc_pu rfl (one_putSL x) fun w3 hb3 k3 z3 => ?_
      refine LdV_has (v := .int .i64 x.plc.dk) hb3 rfl (OpI_int.2 ?_)
      refine LdV_has (v := .int .i64 x.plc.at_) hb3 rfl (OpI_int.2 ?_)
      refine LdA_has (cs := secV x.cel.data) hb3 (by show 2 + 16 ≤ 19; decide) (pu_dat x) ?_
      rw [wrapI (x := x.plc.dk * 1024) (by omega) (by omega), wrapI (x := x.plc.dk * 1024 + x.plc.at_) (by omega) (by omega)]
      refine DoQ_of (v := .agg (recV (recI v x))) (fun _ => bld_rc 3 v _ _ _) (OpA_agg.2 ⟨rfl, ?_⟩)
      have h3 : RaAt w3 base m r size p' l' c' (bs ++ ((xs.take j').map (recI v)).flatMap packB) := ⟨k3.has h2.cells (by simp), h2.row.keep k3 (by simp)⟩
      refine i_each1 h3 (k3.has hm2 (by simp)) (by show (decide (1 ≤ (3 : Int)) && decide ((3 : Int) ≤ 6) && decide (0 ≤ x.plc.dk * 1024 + x.plc.at_) && decide (x.plc.dk * 1024 + x.plc.at_ ≤ 2147483647)) = true; rw [decide_eq_true (show 0 ≤ x.plc.dk * 1024 + x.plc.at_ by omega), decide_eq_true (show x.plc.dk * 1024 + x.plc.at_ ≤ 2147483647 by omega)]; rfl) hs hs2 (by omega) (by have := k3.size; omega) (hr2.keepB k3 (by simp)) fun p4 l4 c4 w4 h4 hm4 hk4 => OpI_int.2 ?_
      rw [appP_ok (stepsN_lit hlit j') (by rw [List.length_append, hpk, List.length_map, List.length_take, Nat.min_eq_left (by omega)]; omega)] at h4 hm4 ⊢
      refine (Cb_false (p := _)).2 ?_
      refine ⟨_, by show ((pl : Int) - IntKind.wrap .i64 ((j' : Int) + 1)).toNat < ((pl : Int) - (j' : Int)).toNat; rw [ek]; omega, ⟨j' + 1, p4, l4, c4, ek, by omega, ?_, hm4, (hk2.trans (RK.of0 k3)).trans hk4⟩, rfl⟩
      rw [List.take_add_one, hx, List.map_append, List.flatMap_append, ← List.append_assoc]
      simpa using h4
    · have hc : j' = pl := by
        have : ¬ (j' : Int) < (pl : Int) := by simpa using hc
        omega
      subst hc
      refine DoQ_of (v := .agg (recV (recK 4 v))) (fun _ => bld_rk 4 v _) (OpA_agg.2 ⟨rfl, ?_⟩)
      refine i_each1 h2 hm2 rfl hs hs2 (by omega) hb2 hr2 fun p4 l4 c4 w4 h4 hm4 hk4 => OpI_int.2 ?_
      rw [appP_ok (stepsN_lit hlit j') (by rw [List.length_append, hpk, List.length_map, List.length_take, Nat.min_eq_left (by omega)]; omega)] at h4 hm4 ⊢
      refine Ret_nil.2 (hK p4 l4 c4 w4 ?_ hm4 (hk2.trans hk4))
      rw [List.flatMap_append, ← List.append_assoc]
      rw [List.take_of_length_le (by omega)] at h4
      simpa using h4
theorem i_End1 {v : Int} (h : RaAt w base m r size p l c bs) (hm : MaAt w m pw) (hlit : Lit0 pw) (hs : 37 ≤ size) (hs2 : size ≤ 65536) (hroom : (bs.length : Int) + 37 ≤ size) (hb : base ≤ w.heap.size) (hr : SlL dLay w rp 1 [r])
    (hK : ∀ p' l' c' w', RaAt w' base m r size p' l' c' (bs ++ packB (recK 5 v)) → MaAt w' m (stepP pw).2 → RK w w' m r p p' → R (.int .i64 0) w') :
    CallV Tryz.prog 133 #[.slice rp 1 rc, .int .u64 v] w R := by
  apply C_intent_End
  unfold F_intent_End
  refine i_missing hr (by omega) (OpB_bool.2 ((Cb_false (p := _)).2 ?_))
  refine DoQ_of (v := .agg (recV (recK 5 v))) (fun _ => bld_rk 5 v _) (OpA_agg.2 ⟨rfl, ?_⟩)
  refine i_each1 h hm rfl hs hs2 (by have := h.row.length; omega) hb hr fun p4 l4 c4 w4 h4 hm4 hk4 => OpI_int.2 ?_
  rw [appP_ok hlit hroom] at h4 hm4 ⊢
  exact Ret_nil.2 (hK p4 l4 c4 w4 h4 hm4 hk4)
end calls
/-! ### the cells of a group -/
def putR (x : Rec) : PutS := ⟨⟨x.lba / 1024, x.lba % 1024⟩, ⟨x.data, sumS (x.lba % 1024) x.data⟩⟩
def isI (v : Int) (x : Rec) : Bool := x.kind == 3 && x.ver == v
def grp (v : Int) (rs : List Rec) : List PutS := (rs.filter (isI v)).map putR
theorem bld_pu (x : PutS) (w : World) : (Instr.build 88 #[(0, .agg (plcV x.plc)), (1, .agg (celV x.cel))]).run Tryz.prog w = .ok (.agg (putSV x)) w := run_build _ _ _ _ (by kernel_rfl)
theorem rc_row (x : Rec) : (rLay.row x).toArray = recV x := by kernel_rfl
theorem rc_dat (x : Rec) : (recV x).extract 3 (3 + 16) = secV x.data := by kernel_rfl
section group
variable {w : World} {R : Value → World → Prop}
theorem i_group {p : Option Addr} {l c : Nat} {rs : List Rec} {v : Int} (h : SlL rLay w p l rs) (hl : l ≤ 100000) (hlba : ∀ x ∈ rs, 0 ≤ x.lba ∧ x.lba ≤ 2147483647)
    (hK : ∀ p' c' w', OwnL puLay w' w.heap.size 88 p' (grp v rs).length c' (grp v rs) → Keep (fun _ => False) w w' → R (.slice p' (grp v rs).length c') w') :
    CallV Tryz.prog 202 #[.slice p l c, .int .u64 v] w R := by
  apply C_intent_group
  unfold F_intent_group
  have hlen := h.1
  refine LoopC_of (σ := (Option Addr × Nat × Nat) × Int × Unit) (fun st w' => ∃ i : Nat, st.2.1 = (i : Int) ∧ i ≤ l ∧ OwnL puLay w' w.heap.size 88 st.1.1 st.1.2.1 st.1.2.2 (grp v (rs.take i)) ∧ Keep (fun _ => False) w w') (fun st _ => ((l : Int) - st.2.1).toNat)
    ⟨0, rfl, by omega, OwnL.nil, Keep.refl _ _⟩ ?_
  rintro _ ⟨⟨q, ql, qc⟩, i, u⟩ w1 ⟨i', hi, hil, o1, k1⟩
  simp only at hi o1 ⊢
  subst hi
  refine Cb_of (fun hc => ?_) (fun hc => ?_)
  · have hc : i' < l := by
      have : (i' : Int) < (l : Int) := by simpa using hc
      omega
    have ek : IntKind.wrap .i64 ((i' : Int) + 1) = ((i' + 1 : Nat) : Int) := by rw [wrapI (by omega) (by omega)]; omega
    have hless : ((l : Int) - IntKind.wrap .i64 ((i' : Int) + 1)).toNat < ((l : Int) - (i' : Int)).toNat := by rw [ek]; omega
    obtain ⟨x, hx⟩ : ∃ x, rs[i']? = some x := ⟨_, List.getElem?_eq_getElem (by omega)⟩
    have hxl := hlba x (List.mem_of_getElem? hx)
    have htake : rs.take (i' + 1) = rs.take i' ++ [x] := by rw [List.take_add_one, hx]; rfl
    have hql : ql ≤ i' := by
      have e := o1.length
      have : (grp v (rs.take i')).length ≤ (rs.take i').length := by
        unfold grp
        rw [List.length_map]
        exact List.length_filter_le _ _
      rw [List.length_take] at this
      omega
    refine (h.keepB k1 (by simp)).ldA (i := (i' : Int)) (n := 19) (x := x) rfl (by omega) (by rw [Int.toNat_natCast]; exact hx) ?_
    rw [rc_row]
    refine copy_of zc_rc rfl (one_recL x) fun w2 hb2 k2 z2 => ?_
    have k02 := k1.trans k2
    have o2 := o1.keep k2 (by simp)
    have skip : isI v x = false → ∃ m_1, m_1 < ((l : Int) - (i' : Int)).toNat ∧ (∃ i : Nat, IntKind.wrap .i64 ((i' : Int) + 1) = (i : Int) ∧ i ≤ l ∧ OwnL puLay w2 w.heap.size 88 q ql qc (grp v (rs.take i)) ∧ Keep (fun _ => False) w w2) ∧ ((l : Int) - IntKind.wrap .i64 ((i' : Int) + 1)).toNat = m_1 := fun e => ⟨_, hless, ⟨i' + 1, ek, by omega, by
      rw [htake]
      unfold grp at o2 ⊢
      rw [List.filter_append]
      simpa [e] using o2, k02⟩, rfl⟩
    refine LdV_has (v := .int .i64 x.kind) hb2 rfl (OpI_int.2 ?_)
    refine Cb_of (fun e3 => ?_) (fun e3 => skip (by unfold isI; rw [e3]; rfl))
    refine LdV_has (v := .int .u64 x.ver) hb2 rfl (OpI_int.2 ?_)
    refine Cb_of (fun ev => ?_) (fun ev => skip (by unfold isI; rw [ev, Bool.and_false]))
    have hI : isI v x = true := by unfold isI; rw [e3, ev]; rfl
    refine LdV_has (v := .int .i64 x.lba) hb2 rfl (OpI_int.2 ⟨by decide, ?_⟩)
    refine LdV_has (v := .int .i64 x.lba) hb2 rfl (OpI_int.2 ⟨by decide, ?_⟩)
    rw [Int.tdiv_eq_ediv_of_nonneg hxl.1, wrapI (x := x.lba / 1024) (by omega) (by omega), Int.tmod_eq_emod_of_nonneg hxl.1]
    refine DoQ_of (v := .agg (plcV (putR x).plc)) (fun _ => run_build _ _ _ _ (by kernel_rfl)) (OpA_agg.2 ⟨rfl, ?_⟩)
    refine copy_of (by kernel_rfl) rfl (by intro v hv; have hv : v ∈ [Value.int .i64 (x.lba / 1024), .int .i64 (x.lba % 1024)] := hv; simp only [List.mem_cons, List.not_mem_nil, or_false] at hv; rcases hv with rfl | rfl <;> rfl) fun w3 hb3 k3 z3 => ?_
    have hb23 := k3.has hb2 (by simp)
    have o3 := o2.keep k3 (by simp)
    have k03 := k02.trans k3
    refine ⟨fun st' w' => OwnL puLay w' w.heap.size 88 st'.1.1 st'.1.2.1 st'.1.2.2 (grp v (rs.take (i' + 1))) ∧ Keep (fun _ => False) w w', ?_, ?_⟩
    · intro d
      have kd := Keep.drew (fun _ => False) w3 d
      have hb4 := kd.has hb3 (by simp)
      have hc4 := kd.has hb23 (by simp)
      have o4 := o3.keep kd (by simp)
      have k04 := k03.trans kd
      generalize w3.dr d = w4 at *
      generalize w2.heap.size = b2 at *
      generalize w1.heap.size = b1 at *
      have hS_ : ∀ w', Keep (fun _ => False) w4 w' → Has w' b2 (.cells (plcV (putR x).plc) 84 (0, 0)) ∧ Has w' b1 (.cells (recV x) 246 (0, 0)) := fun w' k => ⟨k.has hb4 (by simp), k.has hc4 (by simp)⟩
      refine ⟨fun w' => Has w' b2 (.cells (plcV (putR x).plc) 84 (0, 0)) ∧ Has w' b1 (.cells (recV x) 246 (0, 0)), hS_ _ (Keep.refl _ _), ?_⟩
      refine LdA_of (cs := plcV (putR x).plc) rfl (fun w' hw => ⟨_, _, _, hw.1, Nat.le_refl 2, rfl⟩) ?_
      refine LdV_of (v := .int .i64 (x.lba % 1024)) (fun w' hw => ⟨_, _, _, hw.1, rfl⟩) (OpI_int.2 ?_)
      refine LdA_of (cs := secV x.data) rfl (fun w' hw => ⟨_, _, _, hw.2, by show 3 + 16 ≤ 19; decide, rc_dat x⟩) ?_
      refine s_Seal fun w5 k5 => OpA_agg.2 ⟨rfl, hS_ _ k5, ?_⟩
      refine ⟨.agg (putSV (putR x)), fun w' _ => bld_pu (putR x) w', OpA_agg.2 ⟨rfl, ?_⟩⟩
      refine ⟨_, _, bsl_pu1 _ w5, OpS_slice.2 ?_⟩
      have k6 := Keep.new (fun _ => False) w5 (.cells (putSV (putR x)) 88)
      have hb6 := Has.new w5 (.cells (putSV (putR x)) 88)
      generalize w5.alloc (.cells (putSV (putR x)) 88) = w6 at *
      refine ⟨hS_ _ (k5.trans k6), ?_⟩
      have o6 := (o4.keep k5 (by simp)).keep k6 (by simp)
      have k06 := (k04.trans k5).trans k6
      obtain ⟨p7, c7, w7, hr7, o7, k7, hp7⟩ := run_appendF1 puLayT o6 (y := putR x) hb6 rfl (ty := 75) (by omega) (by simp only [maxLen]; omega) (by have := k06.size; omega) (c2 := 1)
      refine ⟨_, _, hr7, OpS_slice.2 ?_⟩
      have k07 : Keep (fun _ => False) w w7 := k06.trans' k7 fun i hi e => by have := (o6.lt e).1; omega
      have k47 : ∀ b cs t, Has w4 b (.cells cs t (0, 0)) → t ≠ 88 → Has w7 b (.cells cs t (0, 0)) := fun b cs t hb ht => by
        have hb' := (k5.trans k6).has hb (by simp)
        exact k7.has hb' (OwnL.neH o6 hb' ht)
      refine ⟨⟨k47 _ _ _ hb4 (by decide), k47 _ _ _ hc4 (by decide)⟩, ?_, k07⟩
      show OwnL puLay w7 w.heap.size 88 p7 (ql + 1) c7 (grp v (rs.take (i' + 1)))
      rw [htake]
      unfold grp at o7 ⊢
      rw [List.filter_append]
      simpa [hI] using o7
    · rintro _ ⟨⟨q2, ql2, qc2⟩, u⟩ w4 ⟨o4, k4⟩
      simp only at o4 ⊢
      exact ⟨_, hless, ⟨i' + 1, ek, by omega, o4, k4⟩, rfl⟩
  · have hc : i' = l := by
      have : ¬ (i' : Int) < (l : Int) := by simpa using hc
      omega
    subst hc
    rw [List.take_of_length_le (by omega)] at o1
    have e := o1.length
    subst e
    exact Ret_nil.2 (hK q qc w1 o1 k1)
end group
end Go.Proofs
