/-
  StripeTwo, the walk.
-/
import Derived.Test.YtdeaollkgckppaaTwoW
import Derived.Test.YtdeaollkgckppaaFTwo9
namespace Go.Proofs
open Go Go.Ev Go.RowKit
set_option linter.unusedSimpArgs false
set_option linter.unusedVariables false
set_option maxRecDepth 100000

theorem nowL_zero (n : Nat) : List.replicate n (sec []) = nowL n now0 := by
  apply List.ext_getElem?
  intro i
  by_cases hi : i < n
  · rw [nowL_at hi, List.getElem?_replicate, if_pos hi]; rfl
  · rw [List.getElem?_eq_none (by simp; omega), List.getElem?_eq_none (by rw [len_nowL]; omega)]
theorem run_mks (w : World) {n : Nat} (hn : n ≤ 20000) : ∃ w', (Instr.makeSlice 67 (.int .i64 (n : Int)) (.int .i64 (n : Int))).run Try.prog w = .ok (.slice (some ⟨w.heap.size, 0, none⟩) n n) w' ∧ OwnL secLay w' w.heap.size 23 (some ⟨w.heap.size, 0, none⟩) n n (List.replicate n (sec [])) ∧ Keep (fun _ => False) w w' ∧ w'.heap.size = w.heap.size + 1 :=
  run_makeL (P := Try.prog) (L := secLay) (x0 := sec []) (t := 67) (e := 23) (i := (Try.prog.info? 23).get (by kernel_rfl)) (z := ((Try.prog.info? 23).get (by kernel_rfl)).zero.get (by kernel_rfl)) w (by kernel_rfl) (by kernel_rfl) (by kernel_rfl) (by kernel_rfl) (by kernel_rfl) n
    (by show n * 16 ≤ _; omega) (by have : ((Try.prog.info? 23).get (by kernel_rfl)).bytes = 16 := by kernel_rfl
                                    rw [this]; omega) (by simp only [maxLen]; omega)
/-- the end: all is read -/
def ReadsT (b3 : Nat) (p : Option Addr) (l : Nat) (n : Int) (w : World) (R : Value → World → Prop) : Prop :=
  LoopC (σ := Int × Unit) (fun _ s2 w K2 => Cb (decide (s2.1 < n)) (LdA 4 b3 0 (At w) fun cs16 => CallV
  Try.prog 25 #[.agg cs16, .int .i64 s2.1] w fun v40 w => T2 v40 fun v41 v42 => OpA 16 v41 fun cs17 => OpI .i64 v42 fun n15 => Alc 23 (zc Try.prog 23) w fun b18 w => StA 16
  b18 0 cs17 w fun w => Cb (n15 != 0) (Drw w fun w => Ret [] (R (.bool false) w)) (LdA 16 b18 0 (At w) fun cs18 => IdxS p l s2.1 16 fun b19 o14 => LdA 16 b19 o14 (At w) fun
  cs19 => EqB Try.prog .neq 23 (.tmp 161) (.tmp 165) (.agg cs18 : Value) (.agg cs19 : Value) (At w) fun g2 => Drw w fun w => Cb g2 (Ret [] (R (.bool false) w)) (K2
  (IntKind.wrap .i64 (s2.1 + 1), ()) w))) (Ret [] (R (.bool true) w))) (0, ()) w
section calls
variable {w0 w : World} {g : Geo} {b1 b2 b3 m : Nat} {bks : List (Nat × Nat)} {p : Option Addr} {c : Nat} {pr : Option Addr} {cr : Nat} {xs : List (Nat × Nat × Nat)} {np : Option Addr} {nc : Nat} {X Y : Int} {s : SS} {now : Int → Sec} {data : Sec} {R : Value → World → Prop}
theorem readsT (h : TwoI w0 w g b1 b2 b3 m bks p c pr cr xs np nc X Y s now data) (hK : ∀ w', Keep (fun _ => False) w w' → R (.bool true) w') : ReadsT b3 np (capG g).toNat (capG g) w R := by
  unfold ReadsT
  have hg := h.ss.geo
  have hcap := hg.cap
  have hcapE : capG g = (g.d - 2) * g.c * g.s := rfl
  rw [← hcapE] at hcap
  refine LoopC_of (σ := Int × Unit) (fun st w' => ∃ i : Nat, st.1 = (i : Int) ∧ (i : Int) ≤ capG g ∧ Keep (fun _ => False) w w') (fun st _ => (capG g - st.1).toNat) ⟨0, rfl, by omega, Keep.refl _ _⟩ ?_
  rintro _ ⟨i, u⟩ w1 ⟨i', hi, hil, k1⟩
  simp only at hi ⊢
  subst hi
  refine Cb_of (fun hc => ?_) (fun hc => ?_)
  · have hc : (i' : Int) < capG g := by simpa using hc
    have ek : IntKind.wrap .i64 ((i' : Int) + 1) = ((i' + 1 : Nat) : Int) := by rw [wrapI (by omega) (by omega)]; omega
    have hO := h.op.keep0 k1
    have hS := h.set.keep0 k1
    have hl1 : (i' : Int) < (g.d - 2) * g.c * g.s := hc
    obtain ⟨pst, pco, pof⟩ := spotP_ok hg (show 0 ≤ (i' : Int) by omega) hl1
    have hrd : readS g s (i' : Int) = (now (i' : Int), 0) := by
      rcases h.inv.read hg h.nok h.lit.1 (show 0 ≤ (i' : Int) by omega) hl1 with e | ⟨_, e, _⟩
      · exact e
      · exact absurd (h.two.lost hg pst pof) e
    refine hO.ld ?_
    refine st_Read hS hO.row.sl hO.row.cap.1 h.ss.ok (show 0 ≤ (i' : Int) by omega) hl1 fun w2 k2 => ?_
    have hrd' : readS (SB.mk m g bks).g s (i' : Int) = (now (i' : Int), 0) := hrd
    rw [hrd']
    refine T2_mk.2 (OpA_agg.2 ⟨rfl, OpI_int.2 ?_⟩)
    refine copy_of (by rw [zc_sec]; rfl) rfl (one_secV _) fun w3 hb3 k3 z3 => ?_
    refine (Cb_false (p := _)).2 ?_
    refine LdA_all hb3 rfl ?_
    have k13 := (k1.trans k2).trans k3
    refine (h.row.keep k13 (by simp)).sl.ldA (i := (i' : Int)) (n := 16) (x := now (i' : Int)) rfl (by omega) (by rw [Int.toNat_natCast]; exact nowL_at (by omega) now) ?_
    have e16 : (secLay.row (now (i' : Int))).toArray = secV (now (i' : Int)) := by show ((secV (now (i' : Int))).toList).toArray = _; simp
    rw [e16]
    refine EqB_sec_ne (h.nok _) (h.nok _) fun r hr => ?_
    have hr0 : r = false := by
      cases r with
      | false => rfl
      | true => exact absurd rfl (hr.1 rfl)
    rw [hr0]
    intro d
    refine (Cb_false (p := _)).2 ?_
    exact ⟨_, by show (capG g - IntKind.wrap .i64 ((i' : Int) + 1)).toNat < (capG g - (i' : Int)).toNat; rw [ek]; omega, ⟨i' + 1, ek, by omega, k13.dr d⟩, rfl⟩
  · exact Ret_nil.2 (hK w1 k1)
end calls
theorem two_walkR {a b c x y : Int} {ahead : Bool} {data : Sec} {lp : Option Addr} {ll lc : Nat} {ls : List Int} {w : World} {R : Value → World → Prop} (ha : 0 ≤ a ∧ a ≤ 255) (hb : 0 ≤ b ∧ b ≤ 255) (hc : 0 ≤ c ∧ c ≤ 255) (hls : SlL byLay w lp ll ls) (hby : By ls) (hx : 0 ≤ x ∧ x ≤ 255) (hy : 0 ≤ y ∧ y ≤ 255) (hdat : SecOk data) (hK : ∀ w', Keep (fun _ => False) w w' → R (.bool true) w') :
    CallV Try.prog 4 #[.int .u8 a, .int .u8 b, .int .u8 c, .slice lp ll lc, .agg (secV data), .int .u8 x, .int .u8 y, .bool ahead] w R := by
  apply C_Two9
  unfold F_Two9
  refine alc_fresh fun w1 hb1 k1 z1 => ?_
  refine open9 (R := R) ha hb hc fun b2 b3 m bks p cc pr cr xs w2 hS hO k2 => ?_
  have hg := smallG_ok (a := a) (b := b) (c := c)
  generalize smallG a b c = g at *
  have hcap := hg.cap
  have hcapE : capG g = (g.d - 2) * g.c * g.s := rfl
  rw [← hcapE] at hcap
  have hn : capG g = (((capG g).toNat : Nat) : Int) := by omega
  obtain ⟨w3, hr3, o3, k3, z3⟩ := run_mks w2 (n := (capG g).toNat) (by omega)
  rw [← hn] at hr3
  refine ⟨_, _, hr3, OpS_slice.2 ?_⟩
  have z12 := k2.size
  have hI0 : TwoI w1 w3 g w.heap.size b2 b3 m bks p cc pr cr xs (some ⟨w2.heap.size, 0, none⟩) (capG g).toNat (x % g.d) (y % g.d) (newS g pw0) now0 data :=
    ⟨hO.keep0 k3, hS.keep0 k3, newS_ok hg pw0, lit0, fun i => by rw [newS_key]; omega, newS_inv hg pw0, now0_ok, newS_two hg pw0 _ _, (k2.trans k3).has hb1 (by simp), hdat, by rw [nowL_zero] at o3; exact o3.rebase z12, fun k hk e => by cases hk; omega⟩
  have hsz : ∀ k, (k = w.heap.size ∨ SFoot ⟨m, g, bks⟩ k ∨ (some (⟨w2.heap.size, 0, none⟩ : Addr)) = some ⟨k, 0, none⟩) → w.heap.size ≤ k := by
    intro k hk
    rcases hk with rfl | hk | hk
    · exact Nat.le_refl _
    · have := hO.foot hk; omega
    · cases hk; omega
  have hsf : ∀ k, SFoot ⟨m, g, bks⟩ k → w.heap.size ≤ k := fun k hk => hsz k (Or.inr (Or.inl hk))
  have k03 := (k1.trans k2).trans k3
  generalize hnp : (some (⟨w2.heap.size, 0, none⟩ : Addr)) = np at *
  refine LoopC_of (σ := Int × Unit) (fun st w' => ∃ (i : Nat) (s : SS) (now : Int → Sec) (dat : Sec), st.1 = (i : Int) ∧ i ≤ 40 ∧ TwoI w1 w' g w.heap.size b2 b3 m bks p cc pr cr xs np (capG g).toNat (x % g.d) (y % g.d) s now dat ∧ Keep (fun _ => False) w w') (fun st _ => (40 - st.1).toNat) ⟨0, _, _, _, rfl, by omega, hI0, k03⟩ ?_
  rintro _ ⟨i, u⟩ w4 ⟨i', s, now, dat, hi, hil, hI, k4⟩
  simp only at hi ⊢
  subst hi
  refine ⟨by trivial, by trivial, ?_⟩
  refine Cb_of (fun hcc => ?_) (fun hcc => ?_)
  · have hcc : i' < ll ∧ i' < 40 := by
      have hcc : cond (decide ((i' : Int) < (ll : Int))) (decide ((i' : Int) < 40)) false = true := hcc
      by_cases h : (i' : Int) < (ll : Int)
      · rw [decide_eq_true h] at hcc
        have : (i' : Int) < 40 := by simpa using hcc
        omega
      · rw [decide_eq_false h] at hcc
        cases hcc
    have ek : IntKind.wrap .i64 ((i' : Int) + 1) = ((i' + 1 : Nat) : Int) := by rw [wrapI (by omega) (by omega)]; omega
    have next : ∀ (w5 : World) (s5 : SS), TwoI w1 w5 g w.heap.size b2 b3 m bks p cc pr cr xs np (capG g).toNat (x % g.d) (y % g.d) s5 now dat → Keep (fun _ => False) w w5 → StepT w.heap.size b3 lp ll np (capG g).toNat (capG g) (i' : Int) w5 R fun w' => ∃ mm : Nat, mm < (40 - (i' : Int)).toNat ∧ ((∃ (i : Nat) (s : SS) (now : Int → Sec) (dat : Sec), IntKind.wrap .i64 ((i' : Int) + 1) = (i : Int) ∧ i ≤ 40 ∧ TwoI w1 w' g w.heap.size b2 b3 m bks p cc pr cr xs np (capG g).toNat (x % g.d) (y % g.d) s now dat ∧ Keep (fun _ => False) w w') ∧ (40 - IntKind.wrap .i64 ((i' : Int) + 1)).toNat = mm) := by
      intro w5 s5 h5 k5
      refine stepT h5 hls hby k5 hcc.1 hcc.2 fun w6 s6 now6 dat6 h6 k6 => ?_
      exact ⟨_, by rw [ek]; omega, ⟨i' + 1, s6, now6, dat6, ek, by omega, h6, k5.trans' k6 fun k hk hh => by have := hsz k hh; omega⟩, rfl⟩
    refine Cb_of (fun _ => ?_) (fun _ => ?_)
    · refine ⟨by decide, ?_⟩
      refine Cb_of (fun _ => ?_) (fun _ => ?_)
      · refine TwoI.fail hI hx (Or.inl rfl) fun w5 s5 h5 k5 => ?_
        refine TwoI.fail h5 hy (Or.inr rfl) fun w6 s6 h6 k6 => ?_
        exact next w6 s6 h6 (k4.trans' (k5.trans k6) fun k hk hh => by have := hsf k hh; omega)
      · exact next w4 s hI k4
    · exact next w4 s hI k4
  · refine TwoI.fail hI hx (Or.inl rfl) fun w5 s5 h5 k5 => ?_
    refine TwoI.fail h5 hy (Or.inr rfl) fun w6 s6 h6 k6 => ?_
    refine readsT (R := R) h6 fun w7 k7 => hK w7 ?_
    exact ((k4.trans' (k5.trans k6) fun k hk hh => by have := hsf k hh; omega).trans k7)
theorem two_walk {a b c x y : Int} {ahead : Bool} {data : Sec} {lp : Option Addr} {ll lc : Nat} {ls : List Int} {w : World} (ha : 0 ≤ a ∧ a ≤ 255) (hb : 0 ≤ b ∧ b ≤ 255) (hc : 0 ≤ c ∧ c ≤ 255) (hls : SlL byLay w lp ll ls) (hby : By ls) (hx : 0 ≤ x ∧ x ≤ 255) (hy : 0 ≤ y ∧ y ≤ 255) (hdat : SecOk data) :
    CallV Try.prog 4 #[.int .u8 a, .int .u8 b, .int .u8 c, .slice lp ll lc, .agg (secV data), .int .u8 x, .int .u8 y, .bool ahead] w fun v w' => v = .bool true ∧ Below w.heap.size w w' :=
  two_walkR ha hb hc hls hby hx hy hdat fun w' k => ⟨rfl, k.below⟩
end Go.Proofs
