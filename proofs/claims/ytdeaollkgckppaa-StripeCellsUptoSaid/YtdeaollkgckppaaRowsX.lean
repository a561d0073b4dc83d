/-
  StripeRows, the walk.
-/
import Derived.Test.YtdeaollkgckppaaStI
import Derived.Test.YtdeaollkgckppaaColM
import Derived.Test.YtdeaollkgckppaaTwoM
import Derived.Test.YtdeaollkgckppaaFRows9
namespace Go.Proofs
open Go Go.Ev Go.RowKit
set_option linter.unusedSimpArgs false
set_option linter.unusedVariables false
set_option maxRecDepth 100000

/-! ### the row of the first sectors -/
theorem spot_col {g : Geo} (hg : GeoOk g) {k : Int} (hk : 0 ≤ k ∧ k < g.d - 2) : spotP g (k * g.c) = (0, k, 0) := by
  have := spotP_lba hg (st := 0) (off := 0) (k := k) (by omega) ⟨by omega, by have := hg.c; omega⟩ hk
  have e : lbaP g 0 0 k = k * g.c := by unfold lbaP; rw [Int.zero_mul, Int.zero_add, Int.add_zero]
  rw [e] at this
  exact this
theorem col_lba {g : Geo} (hg : GeoOk g) {k : Int} (hk : 0 ≤ k ∧ k < g.d - 2) : 0 ≤ k * g.c ∧ k * g.c < (g.d - 2) * g.c * g.s := by
  have hc := hg.c
  have hs := hg.s
  have h0 := Int.mul_nonneg hk.1 (show 0 ≤ g.c by omega)
  have h1 := Int.mul_lt_mul_of_pos_right hk.2 (show 0 < g.c by omega)
  have h2 := Int.mul_le_mul_of_nonneg_left (show 1 ≤ g.s by omega) (show 0 ≤ (g.d - 2) * g.c by omega)
  rw [Int.mul_one] at h2
  omega
theorem at_zero {g : Geo} (k : Int) : (plcP g 0 0 k).at_ = 0 := by
  show 0 * g.c + 0 = 0
  rw [Int.zero_mul]; rfl
theorem GoneAt.le1 {g : Geo} (hg : GeoOk g) {s : SS} {i j : Int} (h : GoneAt g s 0 [j, i]) (hi : 0 ≤ i ∧ i < g.d) (e : i = j) : lostN (colsS g s 0 0) = 1 := by
  subst e
  have hc := hg.c
  have hs := hg.s
  have hz := hg.size
  refine Nat.le_antisymm (lost_le1 hg (by omega) (by omega) i fun k hk hv => ?_) (lost_ge1 hg (i := i) (a := 0) (by rw [Int.zero_mul]; rfl) hi ((h i 0 hi (by omega)).2 ⟨rfl, by simp⟩))
  obtain ⟨pk1, pk2⟩ := plcP_ok hg (st := 0) (off := 0) (by omega) (by omega) (k : Int)
  have := ((h _ _ pk1 pk2).1 hv).2
  simpa using this
theorem GoneAt.eq2 {g : Geo} (hg : GeoOk g) {s : SS} {i j : Int} (h : GoneAt g s 0 [j, i]) (hi : 0 ≤ i ∧ i < g.d) (hj : 0 ≤ j ∧ j < g.d) (e : i ≠ j) : lostN (colsS g s 0 0) = 2 := by
  have hc := hg.c
  have hs := hg.s
  have hz := hg.size
  refine Nat.le_antisymm (lost_two hg (by omega) (by omega) i j fun k hk hv => ?_) (lost_ge2 hg (i := i) (j := j) (a := 0) (by rw [Int.zero_mul]; rfl) hi hj e ((h i 0 hi (by omega)).2 ⟨rfl, by simp⟩) ((h j 0 hj (by omega)).2 ⟨rfl, by simp⟩))
  obtain ⟨pk1, pk2⟩ := plcP_ok hg (st := 0) (off := 0) (by omega) (by omega) (k : Int)
  have := ((h _ _ pk1 pk2).1 hv).2
  simp only [List.mem_cons, List.not_mem_nil, or_false] at this
  exact this.symm
def threeB (i j k : Int) : Bool := cond (cond (i != j) (i != k) false) (j != k) false
theorem threeB_true {i j k : Int} : threeB i j k = true ↔ i ≠ j ∧ i ≠ k ∧ j ≠ k := by
  unfold threeB
  by_cases h1 : i = j <;> by_cases h2 : i = k <;> by_cases h3 : j = k <;> simp [h1, h2, h3] <;> omega
theorem GoneAt.three {g : Geo} (hg : GeoOk g) {s : SS} {i j k : Int} (h : GoneAt g s 0 [k, j, i]) (hi : 0 ≤ i ∧ i < g.d) (hj : 0 ≤ j ∧ j < g.d) (hk : 0 ≤ k ∧ k < g.d) : threeB i j k = true ↔ ¬ lostN (colsS g s 0 0) ≤ 2 := by
  have hc := hg.c
  have hs := hg.s
  have hz := hg.size
  rw [threeB_true]
  constructor
  · intro ⟨e1, e2, e3⟩
    have := lost_ge3 hg (s := s) (st := 0) (off := 0) (i := i) (j := j) (z := k) (a := 0) (by rw [Int.zero_mul]; rfl) hi hj hk e1 e2 e3 ((h i 0 hi (by omega)).2 ⟨rfl, by simp⟩) ((h j 0 hj (by omega)).2 ⟨rfl, by simp⟩) ((h k 0 hk (by omega)).2 ⟨rfl, by simp⟩)
    omega
  · intro hl
    have hv : ∀ X Y : Int, (∀ z ∈ [k, j, i], z = X ∨ z = Y) → False := fun X Y hXY => hl (lost_two hg (by omega) (by omega) X Y fun n hn hv => by
      obtain ⟨pk1, pk2⟩ := plcP_ok hg (st := 0) (off := 0) (by omega) (by omega) (n : Int)
      exact hXY _ ((h _ _ pk1 pk2).1 hv).2)
    refine ⟨fun e => hv i k ?_, fun e => hv i j ?_, fun e => hv i j ?_⟩ <;> intro z hz <;> simp only [List.mem_cons, List.not_mem_nil, or_false] at hz <;> omega

/-! ### as it is printed -/
def HurtT (b3 : Nat) (i : Int) (w : World) (K : World → Prop) : Prop :=
  LdV b3 3 (At w) fun v16 => OpS v16 fun p2 l2 c3 => IdxS p2 l2 i 1 fun b6 o3 => LdV b6 o3 (At w) fun v17 => OpN v17 fun b7 o4 => CallV Try.prog 26 #[.pointer (some ⟨b7, o4, none⟩), .int .i64 0] w fun v18 w =>
  OpI .i64 v18 fun n7 => K w
def EndG (gone : Bool) (n : Int) (b1 b : Nat) (p : Option Addr) (l : Nat) (i : Int) (w : World) (R : Value → World → Prop) (K : World → Prop) : Prop :=
  Cb (!(gone == (n == 8))) (Drw w fun w => Ret [] (R (.bool false) w)) (Cb (!gone) (LdA 16 b 0 (At w) fun cs19 => LdV b1 1 (At w) fun v46 => OpI .i64 v46 fun n21 => IdxS p l (IntKind.wrap .i64 (i * n21)) 16 fun b16
  o11 => LdA 16 b16 o11 (At w) fun cs20 => EqB Try.prog .neq 23 (.tmp 274) (.tmp 281) (.agg cs19 : Value) (.agg cs20 : Value) (At w) fun g4 => Drw w fun w => Cb g4 (Ret []
  (R (.bool false) w)) (K w)) (Drw w fun w => K w))
def LastT (xi yi zi : Int) (three : Bool) (b1 b2 : Nat) (p : Option Addr) (l : Nat) (w : World) (R : Value → World → Prop) : Prop :=
  LoopC (σ := Int × Unit) (fun _ s3 w K3 => LdV b1 0 (At w) fun v40 => OpI .i64 v40 fun n17
  => Cb (decide (s3.1 < IntKind.wrap .i64 (n17 - 2))) (LdA 4 b2 0 (At w) fun cs16 => LdV b1 1 (At w) fun v41 => OpI .i64 v41 fun n18 => CallV Try.prog 25 #[.agg cs16, .int
  .i64 (IntKind.wrap .i64 (s3.1 * n18))] w fun v42 w => T2 v42 fun v43 v44 => OpA 16 v43 fun cs17 => OpI .i64 v44 fun n19 => Alc 23 (zc Try.prog 23) w fun b15 w => StA 16
  b15 0 cs17 w fun w => LdA 3 b1 0 (At w) fun cs18 => CallV Try.prog 27 #[.agg cs18, .int .i64 0, .int .i64 s3.1] w fun v45 w => OpI .i64 v45 fun n20 =>
  Cb three (Cb (n20 == xi) (EndG true n19 b1 b15 p l s3.1 w R fun w => K3 (IntKind.wrap .i64 (s3.1 + 1), ()) w) (Cb (n20 == yi) (EndG true n19 b1 b15 p l s3.1 w R fun w => K3 (IntKind.wrap .i64 (s3.1 + 1), ()) w)
  (EndG (n20 == zi) n19 b1 b15 p l s3.1 w R fun w => K3 (IntKind.wrap .i64 (s3.1 + 1), ()) w))) (EndG false n19 b1 b15 p l s3.1 w R fun w => K3 (IntKind.wrap .i64 (s3.1 + 1), ()) w)) (Ret [] (R (.bool true) w))) (0, ()) w
section calls
variable {w0 w : World} {g : Geo} {b2 b3 m : Nat} {bks : List (Nat × Nat)} {p : Option Addr} {c : Nat} {pr : Option Addr} {cr : Nat} {xs : List (Nat × Nat × Nat)} {np : Option Addr} {nb nc : Nat} {s : SS} {now : Int → Sec} {R : Value → World → Prop}
theorem hurtT (ho : Opened w0 w g b2 b3 m bks p c pr cr xs) (h : StI w w0.heap.size g m bks p c s now) {i : Int} (hi : 0 ≤ i ∧ i < g.d) {K : World → Prop}
    (hK : ∀ w', Opened w0 w' g b2 b3 m bks p c pr cr xs → StI w' w0.heap.size g m bks p c (hurtS s i 0) now → Keep (SFoot ⟨m, g, bks⟩) w w' → K w') : HurtT b3 i w K := by
  unfold HurtT
  have hz := h.ss.geo.size
  refine LdV_has (v := .slice p g.d.toNat c) ho.lw rfl (OpS_slice.2 ?_)
  obtain ⟨b, hb, hcall⟩ := hurtC (R := fun v w => OpI .i64 v fun _ => K w) ho h.set (a := 0) hi fun b e w' _ hS' ho' k => OpI_int.2 (hK w' ho' ⟨hS', h.disks' k, hurtS_ok h.ss hi 0, h.lit, fun i => by rw [hurtS_key (by have := h.ss.num; omega)]; exact h.key i, hurtS_inv h.ss h.inv hi (by omega), h.nok⟩ k)
  exact h.disks.sl.ld0 (i := i) (n := 1) (x := b) (v := .pointer (some ⟨b, 0, none⟩)) rfl hi.1 hb rfl (OpN_some.2 hcall)
theorem endG {gone : Bool} {e : Int} {b : Nat} {f : Sec} {i : Nat} (hg : GeoOk g) (hb : Has w b (.cells (secV f) 23 (0, 0))) (hgeo : Has w b2 (.cells (geoV g) 25 (0, 0))) (hrow : OwnL secLay w nb 23 np (capG g).toNat nc (nowL (capG g).toNat now)) (hn : ∀ l, SecOk (now l)) (hi : (i : Int) < g.d - 2)
    (h1 : gone = true → e = 8) (h2 : gone = false → e = 0 ∧ f = now ((i : Int) * g.c)) {K : World → Prop} (hK : ∀ d, K (w.dr d)) : EndG gone e b2 b np (capG g).toNat (i : Int) w R K := by
  unfold EndG
  have hd := hg.d
  have hcc := hg.c
  obtain ⟨l0, l1⟩ := col_lba hg (k := (i : Int)) ⟨by omega, hi⟩
  cases gone with
  | true =>
    rw [h1 rfl]
    exact hK
  | false =>
    obtain ⟨rfl, rfl⟩ := h2 rfl
    refine (Cb_false (p := _)).2 ((Cb_true (q := _)).2 ?_)
    refine LdA_all hb rfl ?_
    refine LdV_has (v := .int .i64 g.c) hgeo rfl (OpI_int.2 ?_)
    have hcap := hg.cap
    rw [wrapI (by omega) (by omega)]
    refine hrow.ldA (i := (i : Int) * g.c) (n := 16) (x := now ((i : Int) * g.c)) rfl l0 (by rw [nowL_at (by show _ < (capG g).toNat; unfold capG; omega), show ((((i : Int) * g.c).toNat : Nat) : Int) = (i : Int) * g.c by omega]) ?_
    have e16 : (secLay.row (now ((i : Int) * g.c))).toArray = secV (now ((i : Int) * g.c)) := by show ((secV _).toList).toArray = _; simp
    rw [e16]
    refine EqB_sec_ne (hn _) (hn _) fun r hr => ?_
    have hr0 : r = false := by
      cases r with
      | false => rfl
      | true => exact absurd rfl (hr.1 rfl)
    rw [hr0]
    exact fun d => (Cb_false (p := _)).2 (hK d)
theorem lastT (ho : Opened w0 w g b2 b3 m bks p c pr cr xs) (h : StI w w0.heap.size g m bks p c s now) (hrow : OwnL secLay w nb 23 np (capG g).toNat nc (nowL (capG g).toNat now)) {xi yi zi : Int} (hG : GoneAt g s 0 [zi, yi, xi]) (hx : 0 ≤ xi ∧ xi < g.d) (hy : 0 ≤ yi ∧ yi < g.d) (hz : 0 ≤ zi ∧ zi < g.d)
    (hK : ∀ w', Keep (fun _ => False) w w' → R (.bool true) w') : LastT xi yi zi (threeB xi yi zi) b2 b3 np (capG g).toNat w R := by
  unfold LastT
  have hg := h.ss.geo
  have hd := hg.d
  have hcc := hg.c
  have hss := hg.s
  have hsz := hg.size
  have hcap := hg.cap
  refine LoopC_of (σ := Int × Unit) (fun st w' => ∃ i : Nat, st.1 = (i : Int) ∧ (i : Int) ≤ g.d - 2 ∧ Keep (fun _ => False) w w') (fun st _ => (g.d - 2 - st.1).toNat) ⟨0, rfl, by omega, Keep.refl _ _⟩ ?_
  rintro _ ⟨i, u⟩ w1 ⟨i', hi, hil, k1⟩
  simp only at hi ⊢
  subst hi
  have ho1 := ho.keep0 k1
  have h1 := h.keep0 k1
  refine LdV_has (v := .int .i64 g.d) ho1.geo rfl (OpI_int.2 ?_)
  rw [wrapI (x := g.d - 2) (by omega) (by omega)]
  refine Cb_of (fun hc => ?_) (fun hc => ?_)
  · have hc : (i' : Int) < g.d - 2 := by simpa using hc
    have ek : IntKind.wrap .i64 ((i' : Int) + 1) = ((i' + 1 : Nat) : Int) := by rw [wrapI (by omega) (by omega)]; omega
    refine ho1.ld ?_
    refine LdV_has (v := .int .i64 g.c) ho1.geo rfl (OpI_int.2 ?_)
    obtain ⟨l0, l1⟩ := col_lba hg (k := (i' : Int)) ⟨by omega, hc⟩
    rw [wrapI (x := (i' : Int) * g.c) (by omega) (by omega)]
    have hsp := spot_col hg (k := (i' : Int)) ⟨by omega, hc⟩
    refine h1.read l0 l1 fun w2 k2 => ?_
    refine T2_mk.2 (OpA_agg.2 ⟨rfl, OpI_int.2 ?_⟩)
    refine copy_of (by rw [zc_sec]; rfl) rfl (one_secV _) fun w3 hb3 k3 z3 => ?_
    have k13 := k2.trans k3
    have ho3 := ho1.keep0 k13
    refine LdA_all ho3.geo rfl ?_
    refine r3_Column hg ⟨by omega, by omega⟩ ⟨by omega, by omega⟩ fun w4 k4 => OpI_int.2 ?_
    have ho4 := ho3.keep0 k4
    have hb4 := k4.has hb3 (by simp)
    have k04 := (k1.trans k13).trans k4
    have hrow4 := hrow.keep k04 (by simp)
    obtain ⟨pk1, pk2⟩ := plcP_ok hg (st := 0) (off := 0) (by omega) (by omega) (i' : Int)
    have hview := hG (plcP g 0 0 (i' : Int)).dk (plcP g 0 0 (i' : Int)).at_ pk1 pk2
    have hthree := hG.three hg hx hy hz
    have hread := h.inv.read hg h.nok h.lit.1 l0 l1
    have hgone := fun hv hl => read_gone (lba := (i' : Int) * g.c) hg h.lit.1 l0 l1 hv hl
    rw [hsp] at hread hgone
    have hat := at_zero (g := g) (i' : Int)
    rw [hat] at hread hgone hview
    generalize (plcP g 0 0 (i' : Int)).dk = dk at *
    have fin : ∀ (gone : Bool) (K : World → Prop), (gone = true ↔ threeB xi yi zi = true ∧ dk ∈ [zi, yi, xi]) → (∀ d, K (w4.dr d)) → EndG gone (readS g s ((i' : Int) * g.c)).2 b2 w2.heap.size np (capG g).toNat (i' : Int) w4 R K := by
      intro gone K hiff hKd
      refine endG hg hb4 ho4.geo hrow4 h.nok hc (fun hgn => ?_) (fun hgn => ?_) hKd
      · have hh := hiff.1 hgn
        rw [hgone (hview.2 ⟨rfl, hh.2⟩) (hthree.1 hh.1)]
      · rcases hread with e | ⟨_, e2, e3⟩
        · rw [e]; exact ⟨rfl, rfl⟩
        · rw [hiff.2 ⟨hthree.2 e2, (hview.1 e3).2⟩] at hgn
          cases hgn
    have next : ∀ d, ∃ mm : Nat, mm < (g.d - 2 - (i' : Int)).toNat ∧ ((∃ (i : Nat), IntKind.wrap .i64 ((i' : Int) + 1) = (i : Int) ∧ (i : Int) ≤ g.d - 2 ∧ Keep (fun _ => False) w (w4.dr d)) ∧ (g.d - 2 - IntKind.wrap .i64 ((i' : Int) + 1)).toNat = mm) := fun d => ⟨_, by rw [ek]; omega, ⟨i' + 1, ek, by omega, k04.dr d⟩, rfl⟩
    cases hth : threeB xi yi zi with
    | false =>
      refine (Cb_false (p := _)).2 (fin false _ ?_ next)
      rw [hth]; simp
    | true =>
      refine (Cb_true (q := _)).2 (Cb_of (fun e => ?_) (fun e => Cb_of (fun e2 => ?_) (fun e2 => ?_)))
      · refine fin true _ ?_ next
        have e : dk = xi := by simpa using e
        rw [hth, e]; simp
      · refine fin true _ ?_ next
        have e2 : dk = yi := by simpa using e2
        rw [hth, e2]; simp
      · refine fin _ _ ?_ next
        have e : ¬ dk = xi := by simpa using e
        have e2 : ¬ dk = yi := by simpa using e2
        rw [hth]; simp [e, e2]
  · exact Ret_nil.2 (hK w1 k1)
end calls
end Go.Proofs

/-
  StripeRows, the walk's first half, and the whole.
-/
namespace Go.Proofs
open Go Go.Ev Go.RowKit
set_option linter.unusedSimpArgs false
set_option linter.unusedVariables false
set_option maxRecDepth 100000

structure RowI (w0 w : World) (g : Geo) (b2 b3 m : Nat) (bks : List (Nat × Nat)) (p : Option Addr) (c : Nat) (pr : Option Addr) (cr : Nat) (xs : List (Nat × Nat × Nat)) (np : Option Addr) (nc : Nat) (s : SS) (now : Int → Sec) : Prop where
  op : Opened w0 w g b2 b3 m bks p c pr cr xs
  st : StI w w0.heap.size g m bks p c s now
  row : OwnL secLay w w0.heap.size 23 np (capG g).toNat nc (nowL (capG g).toNat now)
/-- a row of sectors of one's own is off the set -/
theorem row_off {w : World} {g : Geo} {m : Nat} {bks : List (Nat × Nat)} {s : SS} (hS : SetAt w ⟨m, g, bks⟩ s) {nb : Nat} {np : Option Addr} {n nc : Nat} {rs : List Sec} (h : OwnL secLay w nb 23 np n nc rs) : ∀ k, np = some ⟨k, 0, none⟩ → ¬ SFoot ⟨m, g, bks⟩ k := fun k hk hi => by
  rcases Own.cases h with ⟨h0, _⟩ | ⟨b', cur, h0, _, hg', _⟩
  · rw [h0] at hk; cases hk
  · rw [h0] at hk; cases hk
    exact hS.typ hg' (by decide) (by decide) (by decide) hi
/-- what has begun stays, where a sector is stored in one's own row -/
theorem Opened.row' {w0 w w' : World} {g : Geo} {b2 b3 m : Nat} {bks : List (Nat × Nat)} {p : Option Addr} {c : Nat} {pr : Option Addr} {cr : Nat} {xs : List (Nat × Nat × Nat)} (h : Opened w0 w g b2 b3 m bks p c pr cr xs) {nb : Nat} {np : Option Addr} {n nc : Nat} {rs : List Sec} (hr : OwnL secLay w nb 23 np n nc rs) (k : Keep (fun k => np = some ⟨k, 0, none⟩) w w') : Opened w0 w' g b2 b3 m bks p c pr cr xs :=
  ⟨k.has h.geo (OwnL.neH hr h.geo (by decide)), k.has h.lw (OwnL.neH hr h.lw (by decide)), h.row.keep k (fun k hk he => OwnL.ne h.row hr (by decide) hk he), h.rset.keep k (fun b cs t hb ht _ => by
    rcases ht with rfl | rfl
    · exact OwnL.neH hr hb (by decide)
    · exact OwnL.neH hr hb (by decide)), h.from_, h.m, h.b2, h.b3⟩
theorem StI.row' {w w' : World} {base : Nat} {g : Geo} {m : Nat} {bks : List (Nat × Nat)} {p : Option Addr} {c : Nat} {s : SS} {now : Int → Sec} (h : StI w base g m bks p c s now) {nb : Nat} {np : Option Addr} {n nc : Nat} {rs : List Sec} (hr : OwnL secLay w nb 23 np n nc rs) (k : Keep (fun k => np = some ⟨k, 0, none⟩) w w') : StI w' base g m bks p c s now :=
  h.keep k (fun b hb e => row_off h.set hr b e hb) (fun b hb he => OwnL.ne h.disks hr (by decide) hb he)
theorem rows_walkR {a b c x y z : Int} {lp : Option Addr} {ll lc : Nat} {ls : List Sec} {w : World} {R : Value → World → Prop} (ha : 0 ≤ a ∧ a ≤ 255) (hb : 0 ≤ b ∧ b ≤ 255) (hc : 0 ≤ c ∧ c ≤ 255) (hls : SlL secLay w lp ll ls) (hok : ∀ f ∈ ls, SecOk f) (hx : 0 ≤ x ∧ x ≤ 255) (hy : 0 ≤ y ∧ y ≤ 255) (hz : 0 ≤ z ∧ z ≤ 255) (hK : ∀ w', Keep (fun _ => False) w w' → R (.bool true) w') :
    CallV Try.prog 5 #[.int .u8 a, .int .u8 b, .int .u8 c, .slice lp ll lc, .int .u8 x, .int .u8 y, .int .u8 z] w R := by
  apply C_Rows9
  unfold F_Rows9
  refine open9 (R := R) ha hb hc fun b2 b3 m bks p cc pr cr xs w2 hS hO k2 => ?_
  have hg := smallG_ok (a := a) (b := b) (c := c)
  generalize smallG a b c = g at *
  have hcap := hg.cap
  have hcapE : capG g = (g.d - 2) * g.c * g.s := rfl
  rw [← hcapE] at hcap
  have hn : capG g = (((capG g).toNat : Nat) : Int) := by omega
  have hd := hg.d
  have hcc := hg.c
  have hss := hg.s
  have hsz := hg.size
  obtain ⟨w3, hr3, o3, k3, z3⟩ := run_mks w2 (n := (capG g).toNat) (by omega)
  rw [← hn] at hr3
  refine ⟨_, _, hr3, OpS_slice.2 ?_⟩
  have z2 := k2.size
  have hO3 := hO.keep0 k3
  have hI0 : RowI w w3 g b2 b3 m bks p cc pr cr xs (some ⟨w2.heap.size, 0, none⟩) (capG g).toNat (newS g pw0) now0 :=
    ⟨hO3, ⟨hS.keep0 k3, hO3.row, newS_ok hg pw0, lit0, fun i => by rw [newS_key]; omega, newS_inv hg pw0, now0_ok⟩, by rw [nowL_zero] at o3; exact o3.rebase z2⟩
  have k03 := k2.trans k3
  have hnpb : ∀ k, (some (⟨w2.heap.size, 0, none⟩ : Addr)) = some ⟨k, 0, none⟩ → w.heap.size ≤ k := fun k hk => by cases hk; omega
  have hsf : ∀ k, SFoot ⟨m, g, bks⟩ k → w.heap.size ≤ k := fun k hk => hO.foot hk
  generalize hnp : (some (⟨w2.heap.size, 0, none⟩ : Addr)) = np at *
  refine LoopC_of (σ := Int × Unit) (fun st w' => ∃ (i : Nat) (s : SS) (now : Int → Sec), st.1 = (i : Int) ∧ (i : Int) ≤ capG g ∧ RowI w w' g b2 b3 m bks p cc pr cr xs np (capG g).toNat s now ∧ Whole g s ∧ Keep (fun _ => False) w w') (fun st _ => (capG g - st.1).toNat) ⟨0, _, _, rfl, by omega, hI0, newS_whole hg pw0, k03⟩ ?_
  rintro _ ⟨i, u⟩ w4 ⟨i', s, now, hi, hil, hI, hW, k4⟩
  simp only at hi ⊢
  subst hi
  refine ⟨by trivial, by trivial, by trivial, ?_⟩
  refine Cb_of (fun hcc => ?_) (fun hcc => ?_)
  · have hcc : i' < ll ∧ (i' : Int) < capG g := by
      have hcc : cond (decide ((i' : Int) < (ll : Int))) (decide ((i' : Int) < capG g)) false = true := hcc
      by_cases h : (i' : Int) < (ll : Int)
      · rw [decide_eq_true h] at hcc
        have : (i' : Int) < capG g := by simpa using hcc
        omega
      · rw [decide_eq_false h] at hcc
        cases hcc
    have ek : IntKind.wrap .i64 ((i' : Int) + 1) = ((i' + 1 : Nat) : Int) := by rw [wrapI (by omega) (by omega)]; omega
    intro d
    refine ⟨fun _ => True, trivial, ?_⟩
    have k4d := k4.dr d
    have hO4 := hI.op.keep0 (Keep.drew _ w4 d)
    have hT4 := hI.st.keep0 (Keep.drew _ w4 d)
    have hR4 := hI.row.keep (Keep.drew (fun _ => False) w4 d) (by simp)
    generalize w4.dr d = w5 at *
    have hlen := hls.1
    obtain ⟨f, hf⟩ : ∃ f, ls[i']? = some f := ⟨_, List.getElem?_eq_getElem (by omega)⟩
    have hfo := hok f (List.mem_of_getElem? hf)
    have e16 : (secLay.row f).toArray = secV f := by show ((secV _).toList).toArray = _; simp
    have hl1 : (i' : Int) < (g.d - 2) * g.c * g.s := hcc.2
    obtain ⟨pst, pco, pof⟩ := spotP_ok hg (show 0 ≤ (i' : Int) by omega) hl1
    have hlost : lostN (colsS g s (spotP g (i' : Int)).1 (spotP g (i' : Int)).2.2) ≤ 2 := by rw [hW.lost hg pst pof]; omega
    refine hO4.ld ?_
    refine (hls.keepB k4d (by simp)).ldA (i := (i' : Int)) (n := 16) (x := f) rfl (by omega) (by rw [Int.toNat_natCast]; exact hf) ?_
    rw [e16]
    refine hT4.plan (by omega) hl1 hfo hlost fun pp pn pc w6 hpn hp3 op k6 => ?_
    refine T2_mk.2 (OpS_slice.2 (OpI_int.2 ⟨trivial, (Cb_false (p := _)).2 ?_⟩))
    have hO6 := hO4.keep0 k6
    have hT6 := hT4.keep0 k6
    have hR6 := hR4.keep k6 (by simp)
    refine hO6.ld ?_
    refine hT6.apply (by omega) hl1 hfo hlost hp3 op fun w7 s7 _ hw hT7 k7 => ?_
    refine OpI_int.2 ((Cb_false (p := _)).2 ?_)
    have hO7 := hO6.keep hT6.set k7
    have hR7 := hR6.keep k7 (row_off hT6.set hR6)
    have k47 := k4d.trans' (k6.mono fun _ h => h.elim) (S' := SFoot ⟨m, g, bks⟩) (fun k hk hh => by have := hsf k hh; omega)
    have k07 : Keep (fun _ => False) w w7 := k47.trans' k7 fun k hk hh => by have := hsf k hh; omega
    refine (hls.keepB k07 (by simp)).ldA (i := (i' : Int)) (n := 16) (x := f) rfl (by omega) (by rw [Int.toNat_natCast]; exact hf) ?_
    refine hR7.stA (i := (i' : Int)) (n := 16) rfl (by omega) (by omega) f (by rfl) fun w8 o8 k8 z8 => ?_
    rw [nowL_set, Int.toNat_natCast] at o8
    refine ⟨_, by show (capG g - IntKind.wrap .i64 ((i' : Int) + 1)).toNat < (capG g - (i' : Int)).toNat; rw [ek]; omega, ⟨i' + 1, s7, upd now (i' : Int) f, ek, by omega, ⟨hO7.row' hR7 k8, hT7.row' hR7 k8, o8⟩, hW.write hw, k07.trans' k8 fun k hk hh => by have := hnpb k hh; omega⟩, rfl⟩
  · have hO4 := hI.op
    have hm0 := fun v : Int => Int.emod_nonneg v (show g.d ≠ 0 by omega)
    have hm1 := fun v : Int => Int.emod_lt_of_pos v (show 0 < g.d by omega)
    have ew : ∀ v : Int, 0 ≤ v ∧ v ≤ 255 → Int.tmod (IntKind.wrap .i64 v) g.d = v % g.d := fun v hv => by rw [wrapI (by omega) (by omega), Int.tmod_eq_emod_of_nonneg hv.1]
    refine LdV_has (v := .int .i64 g.d) hO4.geo rfl (OpI_int.2 ⟨by omega, ?_⟩)
    refine LdV_has (v := .int .i64 g.d) hO4.geo rfl (OpI_int.2 ⟨by omega, ?_⟩)
    refine LdV_has (v := .int .i64 g.d) hO4.geo rfl (OpI_int.2 ⟨by omega, ?_⟩)
    rw [ew x hx, ew y hy, ew z hz]
    have hxd := And.intro (hm0 x) (hm1 x)
    have hyd := And.intro (hm0 y) (hm1 y)
    have hzd := And.intro (hm0 z) (hm1 z)
    generalize x % g.d = xi at *
    generalize y % g.d = yi at *
    generalize z % g.d = zi at *
    intro d
    have k4d := k4.dr d
    have hO5 := hO4.keep0 (Keep.drew _ w4 d)
    have hT5 := hI.st.keep0 (Keep.drew _ w4 d)
    have hR5 := hI.row.keep (Keep.drew (fun _ => False) w4 d) (by simp)
    generalize w4.dr d = w5 at *
    have hz0 : 0 ≤ (0 : Int) ∧ 0 < g.c * g.s := by omega
    refine hurtT hO5 hT5 hxd fun w6 hO6 hT6 k6 => ?_
    have hR6 := hR5.keep k6 (row_off hT5.set hR5)
    have hG6 := (hW.gone 0).hurt hT5.ss hz0 hxd
    refine hurtT hO6 hT6 hyd fun w7 hO7 hT7 k7 => ?_
    have hR7 := hR6.keep k7 (row_off hT6.set hR6)
    have hG7 := hG6.hurt hT6.ss hz0 hyd
    have k07 : Keep (fun _ => False) w w7 := k4d.trans' (k6.trans k7) fun k hk hh => by have := hsf k hh; omega
    generalize hurtS (hurtS s xi 0) yi 0 = s7 at *
    have hlN : lostN (colsS g s7 0 0) = if xi = yi then 1 else 2 := by
      by_cases e : xi = yi
      · rw [if_pos e]; exact hG7.le1 hg hxd e
      · rw [if_neg e]; exact hG7.eq2 hg hxd hyd e
    refine hO7.ld ?_
    refine hT7.rowOk (by omega) (by omega) (by rw [hlN]; split <;> omega) fun p8 c8 lp8 lc8 w8 oc8 ol8 k8 => ?_
    have hO8 := hO7.keep0 k8
    have hT8 := hT7.keep0 k8
    have hR8 := hR7.keep k8 (by simp)
    refine T3_mk.2 (OpS_slice.2 (OpS_slice.2 (OpI_int.2 ((Cb_false (p := _)).2 ?_))))
    refine LdV_has (v := .int .i64 g.d) hO8.geo rfl (OpI_int.2 ?_)
    have e1 : ((((g.d.toNat : Nat) : Int)) != g.d) = false := by
      rw [show ((g.d.toNat : Nat) : Int) = g.d by omega]; simp
    rw [e1]
    refine (Cb_false (p := _)).2 ?_
    have e2 : (!((((lostN (colsS g s7 0 0) : Nat) : Int) == 1) == (xi == yi))) = false := by
      rw [hlN]
      by_cases e : xi = yi <;> simp [e]
    rw [e2]
    refine (Cb_false (p := _)).2 ?_
    have k08 := k07.trans k8
    -- the columns
    refine LoopC_of (σ := Int × Unit) (fun st w' => ∃ i : Nat, st.1 = (i : Int) ∧ (i : Int) ≤ g.d - 2 ∧ Keep (fun _ => False) w8 w') (fun st _ => (g.d - 2 - st.1).toNat) ⟨0, rfl, by omega, Keep.refl _ _⟩ ?_
    rintro _ ⟨i, u⟩ w9 ⟨i', hi, hil, k9⟩
    simp only at hi ⊢
    subst hi
    have hO9 := hO8.keep0 k9
    have hT9 := hT8.keep0 k9
    refine LdV_has (v := .int .i64 g.d) hO9.geo rfl (OpI_int.2 ?_)
    rw [wrapI (x := g.d - 2) (by omega) (by omega)]
    refine Cb_of (fun hc => ?_) (fun hc => ?_)
    · have hc : (i' : Int) < g.d - 2 := by simpa using hc
      have ek : IntKind.wrap .i64 ((i' : Int) + 1) = ((i' + 1 : Nat) : Int) := by rw [wrapI (by omega) (by omega)]; omega
      refine hO9.ld ?_
      refine LdV_has (v := .int .i64 g.c) hO9.geo rfl (OpI_int.2 ?_)
      obtain ⟨l0, l1⟩ := col_lba hg (k := (i' : Int)) ⟨by omega, hc⟩
      rw [wrapI (x := (i' : Int) * g.c) (by omega) (by omega)]
      have hsp := spot_col hg (k := (i' : Int)) ⟨by omega, hc⟩
      have hrd : readS g s7 ((i' : Int) * g.c) = (now ((i' : Int) * g.c), 0) := by
        rcases hT7.inv.read hg hT7.nok hT7.lit.1 l0 l1 with e | ⟨_, e, _⟩
        · exact e
        · rw [hsp, hlN] at e
          exact absurd (by split <;> omega) e
      refine hT9.read l0 l1 fun w10 k10 => ?_
      rw [hrd]
      refine T2_mk.2 (OpA_agg.2 ⟨rfl, OpI_int.2 ?_⟩)
      refine copy_of (by rw [zc_sec]; rfl) rfl (one_secV _) fun w11 hb11 k11 z11 => ?_
      have k811 := k9.trans (k10.trans k11)
      refine (Cb_false (p := _)).2 ?_
      refine LdA_all hb11 rfl ?_
      have hfull : (fullT (rowT g now 0 0))[i']? = some (now ((i' : Int) * g.c)) := by
        unfold fullT
        rw [List.getElem?_append_left (by rw [len_rowT]; omega), rowT_at (by omega)]
        unfold lbaP
        rw [Int.zero_mul, Int.zero_add, Int.add_zero]
      refine (oc8.keep k811 (by simp)).ldA (i := (i' : Int)) (n := 16) (x := now ((i' : Int) * g.c)) rfl (by omega) (by rw [Int.toNat_natCast]; exact hfull) ?_
      have e16 : (secLay.row (now ((i' : Int) * g.c))).toArray = secV (now ((i' : Int) * g.c)) := by show ((secV _).toList).toArray = _; simp
      rw [e16]
      have hno := hT7.nok ((i' : Int) * g.c)
      refine EqB_sec_ne hno hno fun r hr => ?_
      have hr0 : r = false := by
        cases r with
        | false => rfl
        | true => exact absurd rfl (hr.1 rfl)
      rw [hr0]
      refine (Cb_false (p := _)).2 ?_
      refine LdA_all hb11 rfl ?_
      have hO11 := hO8.keep0 k811
      refine LdV_has (v := .int .i64 g.c) hO11.geo rfl (OpI_int.2 ?_)
      rw [wrapI (x := (i' : Int) * g.c) (by omega) (by omega)]
      refine (hR8.keep k811 (by simp)).ldA (i := (i' : Int) * g.c) (n := 16) (x := now ((i' : Int) * g.c)) rfl l0 (by rw [nowL_at (by show _ < (capG g).toNat; omega), show ((((i' : Int) * g.c).toNat : Nat) : Int) = (i' : Int) * g.c by omega]) ?_
      rw [e16]
      refine EqB_sec_ne hno hno fun r hr => ?_
      have hr0 : r = false := by
        cases r with
        | false => rfl
        | true => exact absurd rfl (hr.1 rfl)
      rw [hr0]
      exact fun d => (Cb_false (p := _)).2 ⟨_, by show (g.d - 2 - IntKind.wrap .i64 ((i' : Int) + 1)).toNat < (g.d - 2 - (i' : Int)).toNat; rw [ek]; omega, ⟨i' + 1, ek, by omega, k811.dr d⟩, rfl⟩
    · have hR9 := hR8.keep k9 (by simp)
      refine hurtT hO9 hT9 hzd fun w10 hO10 hT10 k10 => ?_
      have hR10 := hR9.keep k10 (row_off hT9.set hR9)
      have hG10 := hG7.hurt hT9.ss hz0 hzd
      have k010 : Keep (fun _ => False) w w10 := (k08.trans k9).trans' k10 fun k hk hh => by have := hsf k hh; omega
      generalize hurtS s7 zi 0 = s10 at *
      have hth := hG10.three hg hxd hyd hzd
      refine hO10.ld ?_
      have last : ∀ w', Keep (fun _ => False) w10 w' → LastT xi yi zi (threeB xi yi zi) b2 b3 np (capG g).toNat w' R := fun w' k =>
        lastT (hO10.keep0 k) (hT10.keep0 k) (hR10.keep k (by simp)) hG10 hxd hyd hzd fun w'' k'' => hK w'' ((k010.trans k).trans k'')
      cases h3 : threeB xi yi zi with
      | true =>
        refine hT10.rowLost (by omega) (by omega) (hth.1 h3) fun w11 k11 => ?_
        refine T3_mk.2 (OpS_slice.2 (OpS_slice.2 (OpI_int.2 ⟨by trivial, by trivial, by trivial, by trivial, by trivial, by trivial, ?_⟩)))
        show Cb (!(((8 : Int) == 8) == threeB xi yi zi)) (Ret [] (R (.bool false) w11)) (Cb (!(threeB xi yi zi)) (Cb ((8 : Int) != 0) (Ret [] (R (.bool false) w11)) (LastT xi yi zi (threeB xi yi zi) b2 b3 np (capG g).toNat w11 R)) (LastT xi yi zi (threeB xi yi zi) b2 b3 np (capG g).toNat w11 R))
        rw [show (!(((8 : Int) == 8) == threeB xi yi zi)) = false by rw [h3]; rfl, show (!(threeB xi yi zi)) = false by rw [h3]; rfl]
        exact (Cb_false (p := _)).2 ((Cb_false (p := _)).2 (last w11 k11))
      | false =>
        have hl2 : lostN (colsS g s10 0 0) ≤ 2 := by
          by_cases h : lostN (colsS g s10 0 0) ≤ 2
          · exact h
          · rw [hth.2 h] at h3; cases h3
        refine hT10.rowOk (by omega) (by omega) hl2 fun p11 c11 lp11 lc11 w11 oc11 ol11 k11 => ?_
        refine T3_mk.2 (OpS_slice.2 (OpS_slice.2 (OpI_int.2 ⟨by trivial, by trivial, by trivial, by trivial, by trivial, by trivial, ?_⟩)))
        show Cb (!(((0 : Int) == 8) == threeB xi yi zi)) (Ret [] (R (.bool false) w11)) (Cb (!(threeB xi yi zi)) (Cb ((0 : Int) != 0) (Ret [] (R (.bool false) w11)) (LastT xi yi zi (threeB xi yi zi) b2 b3 np (capG g).toNat w11 R)) (LastT xi yi zi (threeB xi yi zi) b2 b3 np (capG g).toNat w11 R))
        rw [show (!(((0 : Int) == 8) == threeB xi yi zi)) = false by rw [h3]; rfl, show (!(threeB xi yi zi)) = true by rw [h3]; rfl]
        exact (Cb_false (p := _)).2 ((Cb_true (q := _)).2 ((Cb_false (p := _)).2 (last w11 k11)))
theorem rows_walk {a b c x y z : Int} {lp : Option Addr} {ll lc : Nat} {ls : List Sec} {w : World} (ha : 0 ≤ a ∧ a ≤ 255) (hb : 0 ≤ b ∧ b ≤ 255) (hc : 0 ≤ c ∧ c ≤ 255) (hls : SlL secLay w lp ll ls) (hok : ∀ f ∈ ls, SecOk f) (hx : 0 ≤ x ∧ x ≤ 255) (hy : 0 ≤ y ∧ y ≤ 255) (hz : 0 ≤ z ∧ z ≤ 255) :
    CallV Try.prog 5 #[.int .u8 a, .int .u8 b, .int .u8 c, .slice lp ll lc, .int .u8 x, .int .u8 y, .int .u8 z] w fun v w' => v = .bool true ∧ Below w.heap.size w w' :=
  rows_walkR ha hb hc hls hok hx hy hz fun w' k => ⟨rfl, k.below⟩
end Go.Proofs
