/-
  SEVERAL TEXTS IN ONE: Load, FCache, Cache, FPair, Each, Pair, MPair.
-/
import Derived.Test.YthhimblbnnafkaaGreatRam
import Derived.Test.YthhimblbnnafkaaGreatChecked
import Derived.Test.YthhimblbnnafkaaGreatEv
import Derived.Test.YthhimblbnnafkaaGreatMix
import Derived.Test.YthhimblbnnafkaaGreatData
import Derived.LaidEql
/-
  The memory's Load: these records alone.
-/
namespace Go.Proofs
open Go Go.Ev
set_option linter.unusedSimpArgs false
set_option linter.unusedVariables false
set_option maxRecDepth 100000

/-- what Load answers, the power behind it, and what the memory holds then -/
def loadP (pw : Pow) (size : Int) (bs : List Int) (rs : List Rec) : Int × Pow × List Int :=
  if pw.on = false then (4, pw, bs)
  else if size < 37 * (rs.length : Int) then (9, pw, bs)
  else if (stepP pw).1 = false then (4, (stepP pw).2, bs)
  else (0, (stepP pw).2, rs.flatMap packB)
theorem len_flatPack (rs : List Rec) : (rs.flatMap packB).length = 37 * rs.length := by
  induction rs with
  | nil => rfl
  | cons r rs ih => rw [List.flatMap_cons, List.length_append, ih, len_packB, List.length_cons]; omega
theorem bytes_ne {w : World} {b1 : Nat} {pp : Option Addr} {ll cc : Nat} {ys : List Int} {k : Nat} {cs : Array Value} {t : TypeId} {f : Nat × Nat} (ho : OwnL byLay w b1 5 pp ll cc ys) (hk : Has w k (.cells cs t f)) (ht : t ≠ 5) : ¬ pp = some ⟨k, 0, none⟩ := by
  intro hp
  rcases Own.cases ho with ⟨h0, _⟩ | ⟨b', cur, h0, _, hg, _⟩
  · rw [h0] at hp; cases hp
  · rw [h0] at hp; cases hp
    have := hg.inj hk
    simp only [Obj.cells.injEq] at this
    exact ht this.2.1.symm
section calls
variable {w : World} {base m r : Nat} {size : Int} {p : Option Addr} {l c : Nat} {bs : List Int} {R : Value → World → Prop}
theorem ra_Load {pw : Pow} {rs : List Rec} {lp : Option Addr} {ll lc : Nat} (h : RaAt w base m r size p l c bs) (hm : MaAt w m pw) (hrs : SlL rLay w lp ll rs) (hx : ∀ x ∈ rs, recGood x = true) (hs : 37 ≤ size) (hs2 : size ≤ 65536) (hl : ll ≤ 1000000) (hb : base ≤ w.heap.size)
    (hK : ∀ p' l' c' w', RaAt w' base m r size p' l' c' (loadP pw size bs rs).2.2 → MaAt w' m (loadP pw size bs rs).2.1 → (p' = p ∨ ∀ k, p' = some ⟨k, 0, none⟩ → w.heap.size ≤ k) → Keep (fun k => k = m ∨ k = r) w w' → R (.int .i64 (loadP pw size bs rs).1) w') :
    CallV Tryz.prog 170 #[.pointer (some ⟨r, 0, none⟩), .slice lp ll lc] w R := by
  apply C_nvram_Ram_Load
  unfold F_nvram_Ram_Load
  have hll := hrs.1
  have hmr : m ≠ r := fun e => by
    subst e
    have := (show Has w m _ from hm).inj h.cells
    simp only [Obj.cells.injEq] at this
    exact absurd this.2.1 (by decide)
  generalize hq : w.heap.size = q at *
  refine LoopC_of (σ := (Option Addr × Nat × Nat) × Int × Unit) (fun st w' => ∃ (k j : Nat), st.2.1 = (k : Int) ∧ k ≤ ll ∧ j ≤ k ∧ (37 * (j : Int) ≤ size + 37) ∧ (j = k ∨ size < 37 * (j : Int)) ∧ st.1.2.1 = 37 * j ∧ OwnL byLay w' q 5 st.1.1 (37 * j) st.1.2.2 ((rs.take j).flatMap packB) ∧ Keep (fun k => q ≤ k) w w')
    (fun st _ => (ll - st.2.1).toNat) ⟨0, 0, rfl, by omega, by omega, by omega, Or.inl rfl, rfl, OwnL.nil, Keep.refl _ _⟩ ?_
  rintro _ ⟨⟨p1, l1, c1⟩, i1, u⟩ w1 ⟨k, j, hi, hk, hjk, hj, hjj, hl1, o1, k1⟩
  simp only at hi hl1 o1 ⊢
  subst hi hl1
  have k01 : Keep (fun _ => False) w w1 := ⟨k1.os, k1.tape, k1.output, k1.size, fun i hi _ => k1.block i hi (by omega)⟩
  refine Cb_of (fun hc => ?_) (fun hc => ?_)
  · have hc : k < ll := by simpa using hc
    have hget : rs[k]? = some rs[k] := List.getElem?_eq_getElem (by omega)
    generalize hr : rs[k] = x at hget
    refine (hrs.keepB k01 (by simp)).ldA (i := (k : Int)) (n := 19) (x := x) rfl (by omega) (by simpa using hget) ?_
    refine copy_of zc_rc rfl (one_recV x) fun w3 hb3 k2' z3 => ?_
    refine LdA_all hb3 rfl ?_
    have hgx := hx x (List.mem_of_getElem? hget)
    refine c_Pack (fun hg _ _ => by rw [hgx] at hg; cases hg) (fun _ g c4 w4 o4 k4 => ?_)
    refine T2_mk.2 (OpS_slice.2 (OpI_int.2 ?_))
    refine (Cb_false (p := _)).2 ?_
    have k14 := k2'.trans k4
    have k04 := k01.trans k14
    refine LdV_has (v := .int .i64 size) (k04.has h.cells (by simp)) rfl ?_
    refine OpI_int.2 ?_
    have e1 : IntKind.wrap .i64 ((k : Int) + 1) = ((k + 1 : Nat) : Int) := by rw [wrapI (by omega) (by omega)]; omega
    have hq4 : q ≤ w4.heap.size := by have := k1.size; have := k14.size; omega
    refine Cb_of (fun hc2 => ?_) (fun hc2 => ?_)
    · have hc2 : 37 * (j : Int) ≤ size := by simp only [decide_eq_true_eq] at hc2; omega
      have hjk' : j = k := by rcases hjj with h | h; exact h; omega
      subst hjk'
      obtain ⟨p5, c5, w5, hr5, o5, k5, hp5⟩ := run_appendF byLayT (o1.keep k14 (by simp)) o4.sl (ty := 22) (c2 := c4) (by omega) (by simp only [maxLen]; omega) hq4
      refine ⟨_, _, hr5, OpS_slice.2 ?_⟩
      have et : (rs.take (j + 1)).flatMap packB = (rs.take j).flatMap packB ++ packB x := by
        rw [List.take_add_one, hget]; simp
      have e37 : 37 * j + 37 = 37 * (j + 1) := by omega
      refine ⟨_, ?_, ⟨j + 1, j + 1, e1, by omega, Nat.le_refl _, by omega, Or.inl rfl, e37, ?_, ?_⟩, rfl⟩
      · show ((ll : Int) - IntKind.wrap .i64 ((j : Int) + 1)).toNat < ((ll : Int) - (j : Int)).toNat
        rw [e1]; omega
      · show OwnL byLay w5 q 5 p5 (37 * (j + 1)) c5 _
        rw [et, ← e37]; exact o5
      · refine (k1.trans (k14.mono (by simp))).trans (k5.mono fun i hi => ?_)
        exact (o1.lt hi).1
    · have hc2 : size < 37 * (j : Int) := by simp only [decide_eq_false_iff_not] at hc2; omega
      refine ⟨_, ?_, ⟨k + 1, j, e1, by omega, by omega, hj, Or.inr hc2, rfl, o1.keep k14 (by simp), k1.trans (k14.mono (by simp))⟩, rfl⟩
      show ((ll : Int) - IntKind.wrap .i64 ((k : Int) + 1)).toNat < ((ll : Int) - (k : Int)).toNat
      rw [e1]; omega
  · have hc : k = ll := by
      have : ¬ ((k : Int) < (ll : Int)) := by simpa using hc
      omega
    have hr1 := k01.has h.cells (by simp)
    have hm1 : MaAt w1 m pw := k01.has hm (by simp)
    have ow1 := h.row.keep k01 (by simp)
    unfold loadP at hK
    have kM : ∀ {w'}, Keep (fun _ => False) w w' → Keep (fun k => k = m ∨ k = r) w w' := fun k => k.mono (by simp)
    refine LdV_has (v := .pointer (some ⟨m, 0, none⟩)) hr1 rfl ?_
    refine OpN_some.2 ?_
    refine ma_On hm1 ?_
    refine OpB_bool.2 ?_
    refine Cb_of (fun hon => ?_) (fun hon => ?_)
    · have hon : pw.on = false := by simpa using hon
      rw [if_pos hon] at hK
      exact Ret_nil.2 (hK p l c w1 ⟨hr1, ow1⟩ hm1 (Or.inl rfl) (kM k01))
    have hon : pw.on = true := by simpa using hon
    rw [if_neg (by rw [hon]; simp)] at hK
    refine LdV_has (v := .int .i64 size) hr1 rfl ?_
    refine OpI_int.2 ?_
    refine Cb_of (fun hsz => ?_) (fun hsz => ?_)
    · have hsz : size < 37 * (j : Int) := by simp only [decide_eq_true_eq] at hsz; omega
      rw [if_pos (by omega)] at hK
      exact Ret_nil.2 (hK p l c w1 ⟨hr1, ow1⟩ hm1 (Or.inl rfl) (kM k01))
    have hsz : 37 * (j : Int) ≤ size := by simp only [decide_eq_false_iff_not] at hsz; omega
    have hjk' : j = ll := by rcases hjj with h | h; omega; omega
    subst hjk'
    rw [if_neg (by omega)] at hK
    refine LdV_has (v := .pointer (some ⟨m, 0, none⟩)) hr1 rfl ?_
    refine OpN_some.2 ?_
    refine ma_Step hm1 fun w3 hm3 k3 z3 => ?_
    refine OpB_bool.2 ?_
    have hr3 := k3.has hr1 (fun e => hmr e.symm)
    have k03 : Keep (fun k => k = m ∨ k = r) w w3 := (kM k01).trans (k3.mono fun k hk => Or.inl hk)
    have ow3 : OwnL byLay w3 base 5 p l c bs := ow1.keep k3 fun k hk e => by
      subst e
      exact bytes_ne ow1 (show Has w1 _ _ from hm1) (by decide) hk
    have on3 : OwnL byLay w3 q 5 p1 (37 * j) c1 ((rs.take j).flatMap packB) := o1.keep k3 fun k hk e => by
      subst e
      exact bytes_ne o1 (show Has w1 _ _ from hm1) (by decide) hk
    refine Cb_of (fun hst => ?_) (fun hst => ?_)
    · have hst : (stepP pw).1 = false := by simpa using hst
      rw [if_pos hst] at hK
      exact Ret_nil.2 (hK p l c w3 ⟨hr3, ow3⟩ hm3 (Or.inl rfl) k03)
    · have hst : (stepP pw).1 = true := by simpa using hst
      rw [if_neg (by rw [hst]; simp)] at hK
      have eall : (rs.take j).flatMap packB = rs.flatMap packB := by rw [List.take_of_length_le (by omega)]
      rw [eall] at on3
      refine StV_of hr3 (by show 2 < 3; decide) rfl ?_
      refine Ret_nil.2 (hK p1 (37 * j) c1 _ ⟨hr3.upd_same _, ?_⟩ (Has.upd hm3 hmr) ?_ ?_)
      · exact (on3.rebase hb).keep (Keep.one _ _ _) fun k hk e => by subst e; exact bytes_ne on3 hr3 (by decide) hk
      · exact Or.inr fun k hk => (on3.lt hk).1
      · exact k03.upd (fun _ => Or.inr rfl) _
end calls
end Go.Proofs

/- PRINTED BY pr.py (own program): what the evaluator of <Name>Ev makes of the code of some functions. -/
namespace Go.Proofs
open Go.Ev
set_option linter.unusedVariables false
set_option maxRecDepth 100000
def F_cache_New (room : Int) (w : World) (R : Value → World → Prop) : Prop :=
  Req ((decide (room < 1)) = (decide (room < 1))) (Req ((decide (room < 1)) = (decide (room < 1))) (Cb (cond (decide (room < 1)) true (decide (room > 64))) (Ret [] (R
  (.tuple #[.pointer none, .int .i64 2]) w)) (DoV Tryz.prog (Instr.makeMap 242 none) w fun v w => OpM v fun m => DoQ Tryz.prog (Instr.build 244 #[(0, .int .i64 room), (1,
  .map m)]) (At w) fun v1 => OpA 2 v1 fun cs => Alc 244 cs w fun b w => Ret [] (R (.tuple #[.pointer (some ⟨b, 0, none⟩), .int .i64 0]) w))))
theorem C_cache_New {room : Int} {w : World} {R : Value → World → Prop} (h : F_cache_New room w R) : CallV Tryz.prog 211 #[.int .i64 room] w R := by
  exact calls_of_F (args := [.int .i64 room]) (mkAnn [] [] [] [] []) Tryz_mixed Tryz.func211 rfl rfl (by kernel_rfl) h
def F_cache_Cache_Put (c : Nat) (lba : Int) (data : Array Value) (version : Int) (w : World) (R : Value → World → Prop) : Prop :=
  Alc 37 data w fun b w => Req (false = false) (Req (false = false) (Req ((decide (lba < 0)) = (decide (lba < 0))) (Req ((decide (lba < 0)) = (decide (lba < 0))) (Cb (cond
  (decide (lba < 0)) true (decide (lba > 2147483647))) (Ret [] (R (.int .i64 2) w)) (LdV c 1 (At w) fun v => OpM v fun m => DoQ Tryz.prog (Instr.lookup 242 (.map m) (.int
  .i64 lba) true) (At w) fun v1 => T2 v1 fun v2 v3 => OpA 17 v2 fun cs => OpB v3 fun g => Alc 354 (zc Tryz.prog 354) w fun b1 w => StA 17 b1 0 cs w fun w => Cb g (LdV b1 16
  (At w) fun v4 => OpI .u64 v4 fun n => Cb (decide (n ≥ version)) (Ret [] (R (.int .i64 2) w)) (Cb (!g) (CallV Tryz.prog 226 #[.pointer (some ⟨c, 0, none⟩)] w fun v5 w =>
  OpB v5 fun g1 => Cb g1 (Ret [] (R (.int .i64 9) w)) (Dr1 w fun w => LdV c 1 (At w) fun v6 => OpM v6 fun m1 => LdA 16 b 0 (At w) fun cs1 => DoQ Tryz.prog (Instr.build 354
  #[(0, .agg cs1), (1, .int .u64 version)]) (At w) fun v7 => OpA 17 v7 fun cs2 => DoU Tryz.prog (Instr.mapUpdate 242 (.map m1) (.int .i64 lba) (.agg cs2)) w fun w => Ret []
  (R (.int .i64 0) w))) (Dr1 w fun w => LdV c 1 (At w) fun v8 => OpM v8 fun m2 => LdA 16 b 0 (At w) fun cs3 => DoQ Tryz.prog (Instr.build 354 #[(0, .agg cs3), (1, .int .u64
  version)]) (At w) fun v9 => OpA 17 v9 fun cs4 => DoU Tryz.prog (Instr.mapUpdate 242 (.map m2) (.int .i64 lba) (.agg cs4)) w fun w => Ret [] (R (.int .i64 0) w)))) (Cb (!g)
  (CallV Tryz.prog 226 #[.pointer (some ⟨c, 0, none⟩)] w fun v10 w => OpB v10 fun g2 => Cb g2 (Ret [] (R (.int .i64 9) w)) (Dr1 w fun w => LdV c 1 (At w) fun v11 => OpM v11
  fun m3 => LdA 16 b 0 (At w) fun cs5 => DoQ Tryz.prog (Instr.build 354 #[(0, .agg cs5), (1, .int .u64 version)]) (At w) fun v12 => OpA 17 v12 fun cs6 => DoU Tryz.prog
  (Instr.mapUpdate 242 (.map m3) (.int .i64 lba) (.agg cs6)) w fun w => Ret [] (R (.int .i64 0) w))) (Dr1 w fun w => LdV c 1 (At w) fun v13 => OpM v13 fun m4 => LdA 16 b 0
  (At w) fun cs7 => DoQ Tryz.prog (Instr.build 354 #[(0, .agg cs7), (1, .int .u64 version)]) (At w) fun v14 => OpA 17 v14 fun cs8 => DoU Tryz.prog (Instr.mapUpdate 242 (.map
  m4) (.int .i64 lba) (.agg cs8)) w fun w => Ret [] (R (.int .i64 0) w))))))))
theorem C_cache_Cache_Put {c : Nat} {lba : Int} {data : Array Value} {version : Int} {w : World} {R : Value → World → Prop} (h : F_cache_Cache_Put c lba data version w R) : CallV Tryz.prog 212 #[.pointer (some ⟨c, 0, none⟩), .int .i64 lba, .agg data, .int .u64 version] w R := by
  exact calls_of_F (args := [.pointer (some ⟨c, 0, none⟩), .int .i64 lba, .agg data, .int .u64 version]) (mkAnn [] [] [] [] []) Tryz_mixed Tryz.func212 rfl rfl (by kernel_rfl) h
def F_cache_Cache_Get (c : Nat) (lba : Int) (w : World) (R : Value → World → Prop) : Prop :=
  Alc 37 (zc Tryz.prog 37) w fun b w => LdV c 1 (At w) fun v => OpM v fun m => DoQ Tryz.prog (Instr.lookup 242 (.map m) (.int .i64 lba) true) (At w) fun v1 => T2 v1 fun v2
  v3 => OpA 17 v2 fun cs => OpB v3 fun g => Alc 354 (zc Tryz.prog 354) w fun b1 w => StA 17 b1 0 cs w fun w => Cb (!g) (DoQ Tryz.prog (Instr.build 37 #[]) (At w) fun v4 =>
  OpA 16 v4 fun cs1 => StA 16 b 0 cs1 w fun w => LdA 16 b 0 (At w) fun cs2 => Ret [] (R (.tuple #[.agg cs2, .int .u64 0, .int .i64 10]) w)) (HeldR w fun S w => LdA 16 b1 0
  (At w) fun cs3 => LdV b1 16 S fun v5 => OpI .u64 v5 fun n => StA 16 b 0 cs3 w fun w => Hld (S w) (LdA 16 b 0 (At w) fun cs4 => Ret [] (R (.tuple #[.agg cs4, .int .u64 n,
  .int .i64 0]) w)))
theorem C_cache_Cache_Get {c : Nat} {lba : Int} {w : World} {R : Value → World → Prop} (h : F_cache_Cache_Get c lba w R) : CallV Tryz.prog 225 #[.pointer (some ⟨c, 0, none⟩), .int .i64 lba] w R := by
  exact calls_of_F (args := [.pointer (some ⟨c, 0, none⟩), .int .i64 lba]) (mkAnn [] [] [] [] []) Tryz_mixed Tryz.func225 rfl rfl (by kernel_rfl) h
def F_cache_Cache_Len (c : Nat) (w : World) (R : Value → World → Prop) : Prop :=
  LdV c 1 (At w) fun v => OpM v fun m => DoQ Tryz.prog (Builtin.len_ #[242] 3 #[.map m]) (At w) fun v1 => OpI .i64 v1 fun n => Ret [] (R (.int .i64 n) w)
theorem C_cache_Cache_Len {c : Nat} {w : World} {R : Value → World → Prop} (h : F_cache_Cache_Len c w R) : CallV Tryz.prog 83 #[.pointer (some ⟨c, 0, none⟩)] w R := by
  exact calls_of_F (args := [.pointer (some ⟨c, 0, none⟩)]) (mkAnn [] [] [] [] []) Tryz_mixed Tryz.func83 rfl rfl (by kernel_rfl) h
def F_cache_Cache_Full (c : Nat) (w : World) (R : Value → World → Prop) : Prop :=
  LdV c 1 (At w) fun v => OpM v fun m => DoQ Tryz.prog (Builtin.len_ #[242] 3 #[.map m]) (At w) fun v1 => OpI .i64 v1 fun n => LdV c 0 (At w) fun v2 => OpI .i64 v2 fun n1 =>
  Drw w fun w => Ret [] (R (.bool (decide (n ≥ n1))) w)
theorem C_cache_Cache_Full {c : Nat} {w : World} {R : Value → World → Prop} (h : F_cache_Cache_Full c w R) : CallV Tryz.prog 226 #[.pointer (some ⟨c, 0, none⟩)] w R := by
  exact calls_of_F (args := [.pointer (some ⟨c, 0, none⟩)]) (mkAnn [] [] [] [] []) Tryz_mixed Tryz.func226 rfl rfl (by kernel_rfl) h
end Go.Proofs

/-
  THE CACHE: what New, Put, Get, Len, Full do, said over a list of entries.
-/
namespace Go.Proofs
open Go Go.Ev
set_option linter.unusedSimpArgs false
set_option linter.unusedVariables false
set_option maxRecDepth 100000

/-- a sector and its version -/
abbrev Ent := Sec × Int
def entV (e : Ent) : Value :=
  .agg #[.int .u8 (e.1 0), .int .u8 (e.1 1), .int .u8 (e.1 2), .int .u8 (e.1 3), .int .u8 (e.1 4), .int .u8 (e.1 5), .int .u8 (e.1 6), .int .u8 (e.1 7),
    .int .u8 (e.1 8), .int .u8 (e.1 9), .int .u8 (e.1 10), .int .u8 (e.1 11), .int .u8 (e.1 12), .int .u8 (e.1 13), .int .u8 (e.1 14), .int .u8 (e.1 15), .int .u64 e.2]
/-- the cache in block c, its map in block m -/
def CacheAt (w : World) (c m : Nat) (room : Int) (es : List (Int × Ent)) : Prop :=
  Has w c (.cells #[.int .i64 room, .map (some m)] 244 (0, 0)) ∧ MapAt .i64 w m (tag entV es)
theorem CacheAt.keep {w w' : World} {c m : Nat} {room : Int} {es : List (Int × Ent)} {S : Nat → Prop} (h : CacheAt w c m room es) (hk : Keep S w w') (hc : ¬ S c) (hm : ¬ S m) : CacheAt w' c m room es :=
  ⟨hk.has h.1 hc, h.2.keep hk hm⟩
theorem CacheAt.lt {w : World} {c m : Nat} {room : Int} {es : List (Int × Ent)} (h : CacheAt w c m room es) : c < w.heap.size ∧ m < w.heap.size := ⟨h.1.lt, h.2.lt⟩

theorem under_map : Tryz.prog.underlying 242 = some (.map 3 354) := by kernel_rfl
theorem under_int : Tryz.prog.underlying 3 = some (.int .i64) := by kernel_rfl
theorem zero_ent (w : World) : (zeroValue 354).run Tryz.prog w = .ok (entV (sec [], 0)) w := run_zeroValue (i := ((Tryz.prog.info? 354).get (by kernel_rfl))) (by kernel_rfl) (by kernel_rfl)
theorem bld_ent (f : Sec) (v : Int) (w : World) : (Instr.build 354 #[(0, .agg (secV f)), (1, .int .u64 v)]).run Tryz.prog w = .ok (entV (f, v)) w := run_build _ _ _ _ (by kernel_rfl)
theorem zc_ent : zc Tryz.prog 354 = (entV (sec [], 0)).cells := by kernel_rfl
theorem bld_cache (room : Int) (m : Nat) (w : World) : (Instr.build 244 #[(0, .int .i64 room), (1, .map (some m))]).run Tryz.prog w = .ok (.agg #[.int .i64 room, .map (some m)]) w := run_build _ _ _ _ (by kernel_rfl)

theorem look_cache {w : World} {m : Nat} {es : List (Int × Ent)} (h : MapAt .i64 w m (tag entV es)) (x : Int) :
    (Instr.lookup 242 (.map (some m)) (.int .i64 x) true).run Tryz.prog w = .ok (.tuple #[entV ((mlook es x).getD (sec [], 0)), .bool (mlook es x).isSome]) w := by
  rw [run_lookup under_map under_int zero_ent h, look_tag]
  cases mlook es x <;> rfl

theorem cache_New_bad {room : Int} (hr : room < 1 ∨ 64 < room) {w : World} {R : Value → World → Prop} (hK : R (.tuple #[.pointer none, .int .i64 2]) w) :
    CallV Tryz.prog 211 #[.int .i64 room] w R := by
  apply C_cache_New
  unfold F_cache_New
  refine ⟨rfl, rfl, ?_⟩
  have : (cond (decide (room < 1)) true (decide (room > 64))) = true := by
    rcases hr with h | h
    · simp [h]
    · cases hd : decide (room < 1) <;> simp [h]
  rw [this]
  simpa using hK

theorem cache_New {room : Int} (h1 : 1 ≤ room) (h2 : room ≤ 64) {w : World} {R : Value → World → Prop}
    (hK : ∀ c m w', CacheAt w' c m room [] → Keep (fun _ => False) w w' → w.heap.size ≤ c → w.heap.size ≤ m → R (.tuple #[.pointer (some ⟨c, 0, none⟩), .int .i64 0]) w') :
    CallV Tryz.prog 211 #[.int .i64 room] w R := by
  apply C_cache_New
  unfold F_cache_New
  refine ⟨rfl, rfl, ?_⟩
  have e1 : decide (room < 1) = false := by simp; omega
  have e2 : decide (room > 64) = false := by simp; omega
  simp only [e1, e2, cond_false, Cb_false]
  refine ⟨_, _, run_makeMap, ?_⟩
  simp only [OpM_map]
  refine DoQ_of (fun d => bld_cache _ _ _) ?_
  simp only [OpA_agg]
  refine ⟨rfl, ?_⟩
  rw [Alc_iff]
  simp only [Ret_nil]
  have hm := Has.new w (.map #[] 0)
  refine hK _ w.heap.size _ ⟨Has.new _ _, #[], 0, hm.alloc, MapOk.nil _⟩ (((Keep.refl _ w).alloc _).alloc _) (by simp) (Nat.le_refl _)

theorem cache_Full {c m : Nat} {room : Int} {es : List (Int × Ent)} {w : World} {R : Value → World → Prop} (h : CacheAt w c m room es)
    (hK : ∀ d, R (.bool (decide (room ≤ (es.length : Int)))) (w.dr d)) : CallV Tryz.prog 226 #[.pointer (some ⟨c, 0, none⟩)] w R := by
  apply C_cache_Cache_Full
  unfold F_cache_Cache_Full
  refine LdV_has (v := .map (some m)) h.1 rfl ?_
  simp only [OpM_map]
  refine DoQ_of (fun d => run_lenm under_map (h.2.dr d)) ?_
  simp only [OpI_int]
  refine LdV_has (v := .int .i64 room) h.1 rfl ?_
  simp only [OpI_int, Drw_iff, Ret_nil, length_tag]
  exact hK

/-- what Get answers -/
theorem cache_Get {c m : Nat} {room : Int} {es : List (Int × Ent)} {lba : Int} {w : World} {R : Value → World → Prop} (h : CacheAt w c m room es)
    (hK : ∀ w', Keep (fun _ => False) w w' → R (match mlook es lba with
      | some e => .tuple #[.agg (secV e.1), .int .u64 e.2, .int .i64 0]
      | none => .tuple #[.agg (secV (sec [])), .int .u64 0, .int .i64 10]) w') :
    CallV Tryz.prog 225 #[.pointer (some ⟨c, 0, none⟩), .int .i64 lba] w R := by
  apply C_cache_Cache_Get
  unfold F_cache_Cache_Get
  rw [Alc_iff]
  have hb := Has.new w (.cells (zc Tryz.prog 37) 37)
  have k1 := (Keep.refl (fun _ => False) w).alloc (.cells (zc Tryz.prog 37) 37)
  have h1 := h.keep k1 (by simp) (by simp)
  generalize hw1 : w.alloc (.cells (zc Tryz.prog 37) 37) = w1 at *
  refine LdV_has (v := .map (some m)) h1.1 rfl ?_
  simp only [OpM_map]
  refine DoQ_of (fun d => look_cache (h1.2.dr d) lba) ?_
  simp only [T2_mk, entV, OpA_agg, OpB_bool]
  refine ⟨rfl, ?_⟩
  rw [Alc_iff]
  have hb1 := Has.new w1 (.cells (zc Tryz.prog 354) 354)
  have hb' := hb.alloc (y := .cells (zc Tryz.prog 354) 354)
  have k2 := k1.alloc (.cells (zc Tryz.prog 354) 354)
  have hne : w.heap.size ≠ w1.heap.size := hb.ne_new
  have hlt := hb.lt
  generalize hw2 : w1.alloc (.cells (zc Tryz.prog 354) 354) = w2 at *
  rw [zc_ent] at hb1
  rw [zc_sec] at hb'
  refine StA_all hb1 rfl rfl ?_ ?_
  · intro v hv
    simp only [List.mem_cons, List.not_mem_nil, or_false] at hv
    rcases hv with rfl | rfl | rfl | rfl | rfl | rfl | rfl | rfl | rfl | rfl | rfl | rfl | rfl | rfl | rfl | rfl | rfl <;> rfl
  generalize hcs : (#[Value.int IntKind.u8 _, _, _, _, _, _, _, _, _, _, _, _, _, _, _, _, _] : Array Value) = cs
  have hb2 := hb1.upd_same (.cells cs 354)
  have hb3 := hb'.upd (y := .cells cs 354) hne
  have k3 := k2.upd (k := w1.heap.size) (by omega) (.cells cs 354)
  generalize hw3 : w2.upd w1.heap.size (.cells cs 354) = w3 at *
  cases hl : mlook es lba with
  | none =>
    simp only [hl] at hK
    simp only [Option.isSome_none, Bool.not_false, Cb_true]
    refine DoQ_of (fun d => bld_sec0 _) ?_
    simp only [OpA_agg]
    refine ⟨rfl, StA_all hb3 rfl rfl (one_secV _) ?_⟩
    have hb4 := hb3.upd_same (.cells (secV (sec [])) 37)
    refine LdA_all hb4 rfl ?_
    simp only [Ret_nil]
    exact hK _ (k3.upd (by omega) _)
  | some e =>
    simp only [hl] at hK hcs
    simp only [Option.isSome_some, Bool.not_true, Cb_false]
    intro d
    refine ⟨fun w' => Has w' w1.heap.size (.cells cs 354), hb2, ?_⟩
    subst hcs
    refine LdA_has (cs := secV e.1) (hb2.dr d) (by simp) rfl ?_
    refine LdV_of (v := .int .u64 e.2) (fun w' h => ⟨_, _, _, h, rfl⟩) ?_
    simp only [OpI_int]
    refine StA_all (hb3.dr d) rfl rfl (one_secV _) ?_
    refine ⟨(hb2.dr d).upd (fun e => hne e.symm), ?_⟩
    have hb4 := (hb3.dr d).upd_same (.cells (secV e.1) 37)
    refine LdA_all hb4 rfl ?_
    simp only [Ret_nil]
    exact hK _ ((k3.dr d).upd (by omega) _)

/-- what Put answers -/
def putE (room : Int) (es : List (Int × Ent)) (lba version : Int) : Int :=
  if lba < 0 ∨ 2147483647 < lba then 2 else
  match mlook es lba with
  | some e => if version ≤ e.2 then 2 else 0
  | none => if room ≤ (es.length : Int) then 9 else 0

theorem put_tail {c m b : Nat} {room lba version : Int} {f : Sec} {es : List (Int × Ent)} {w0 w : World} {R : Value → World → Prop} (h : CacheAt w c m room es) (k : Keep (fun k => k = m) w0 w)
    (hb : Has w b (.cells (secV f) 37 (0, 0)))
    (hK : ∀ w', Keep (fun k => k = m) w0 w' → CacheAt w' c m room (ins es lba (f, version)) → R (.int .i64 0) w') :
    Dr1 w fun w => LdV c 1 (At w) fun v6 => OpM v6 fun m1 => LdA 16 b 0 (At w) fun cs1 => DoQ Tryz.prog (Instr.build 354 #[(0, .agg cs1), (1, .int .u64 version)]) (At w) fun v7 => OpA 17 v7 fun cs2 =>
      DoU Tryz.prog (Instr.mapUpdate 242 (.map m1) (.int .i64 lba) (.agg cs2)) w fun w => Ret [] (R (.int .i64 0) w) := by
  intro d _
  refine LdV_has (v := .map (some m)) (h.1.dr d) rfl ?_
  simp only [OpM_map]
  refine LdA_all (hb.dr d) rfl ?_
  refine DoQ_of (fun d => bld_ent _ _ _) ?_
  simp only [entV, OpA_agg]
  refine ⟨rfl, ?_⟩
  obtain ⟨arr, clk, hr, ho⟩ := run_mapUpdate (P := Tryz.prog) under_map under_int (h.2.dr d) lba (entV (f, version))
  refine ⟨_, hr, ?_⟩
  rw [ins_tag] at ho
  simp only [Ret_nil]
  obtain ⟨arr0, clk0, hm, _⟩ := h.2
  exact hK _ ((k.dr d).upd (fun _ => rfl) _) ⟨(h.1.dr d).upd (h.1.ne hm (by simp)), arr, clk, (hm.dr d).upd_same _, ho⟩

theorem cache_Put {c m : Nat} {room lba version : Int} {f : Sec} {es : List (Int × Ent)} {w : World} {R : Value → World → Prop} (h : CacheAt w c m room es)
    (hK : ∀ w', Keep (fun k => k = m) w w' → CacheAt w' c m room (if putE room es lba version = 0 then ins es lba (f, version) else es) → R (.int .i64 (putE room es lba version)) w') :
    CallV Tryz.prog 212 #[.pointer (some ⟨c, 0, none⟩), .int .i64 lba, .agg (secV f), .int .u64 version] w R := by
  apply C_cache_Cache_Put
  unfold F_cache_Cache_Put
  rw [Alc_iff]
  have hb := Has.new w (.cells (secV f) 37)
  have k1 := (Keep.refl (fun k => k = m) w).alloc (.cells (secV f) 37)
  have h1 := h.keep (w' := w.alloc (.cells (secV f) 37)) ((Keep.refl (fun k => False) w).alloc _) (by simp) (by simp)
  have hlt := h.lt
  generalize hw1 : w.alloc (.cells (secV f) 37) = w1 at *
  refine ⟨rfl, rfl, rfl, rfl, ?_⟩
  refine Cb_of (fun hc => ?_) (fun hc => ?_)
  · have hr : lba < 0 ∨ 2147483647 < lba := by
      by_cases h1 : lba < 0
      · exact Or.inl h1
      · simp [h1] at hc; exact Or.inr hc
    have he : putE room es lba version = 2 := by simp [putE, hr]
    rw [he] at hK
    simp only [Ret_nil]
    exact hK _ k1 (by simpa using h1)
  have hr : ¬ (lba < 0 ∨ 2147483647 < lba) := by
    by_cases h1 : lba < 0
    · simp [h1] at hc
    · simp [h1] at hc; omega
  refine LdV_has (v := .map (some m)) h1.1 rfl ?_
  simp only [OpM_map]
  refine DoQ_of (fun d => look_cache (h1.2.dr d) lba) ?_
  simp only [T2_mk, entV, OpA_agg, OpB_bool]
  refine ⟨rfl, ?_⟩
  rw [Alc_iff]
  have hb1 := Has.new w1 (.cells (zc Tryz.prog 354) 354)
  have hb' := hb.alloc (y := .cells (zc Tryz.prog 354) 354)
  have k2 := k1.alloc (.cells (zc Tryz.prog 354) 354)
  have h2 := h1.keep (w' := w1.alloc (.cells (zc Tryz.prog 354) 354)) ((Keep.refl (fun k => False) w1).alloc _) (by simp) (by simp)
  have hne : w.heap.size ≠ w1.heap.size := hb.ne_new
  have hlb := hb.lt
  have hlt1 := h1.lt
  generalize hw2 : w1.alloc (.cells (zc Tryz.prog 354) 354) = w2 at *
  rw [zc_ent] at hb1
  refine StA_all hb1 rfl rfl ?_ ?_
  · intro v hv
    simp only [List.mem_cons, List.not_mem_nil, or_false] at hv
    rcases hv with rfl | rfl | rfl | rfl | rfl | rfl | rfl | rfl | rfl | rfl | rfl | rfl | rfl | rfl | rfl | rfl | rfl <;> rfl
  generalize hcs : (#[Value.int IntKind.u8 _, _, _, _, _, _, _, _, _, _, _, _, _, _, _, _, _] : Array Value) = cs
  have hb2 := hb1.upd_same (.cells cs 354)
  have hb3 := hb'.upd (y := .cells cs 354) hne
  have k3 := k2.upd (k := w1.heap.size) (by omega) (.cells cs 354)
  have h3 := h2.keep (w' := w2.upd w1.heap.size (.cells cs 354)) (S := fun k => k = w1.heap.size) (Keep.upd (Keep.refl (fun k => k = w1.heap.size) w2) (k := w1.heap.size) (fun _ => rfl) _) (by omega) (by omega)
  generalize hw3 : w2.upd w1.heap.size (.cells cs 354) = w3 at *
  cases hl : mlook es lba with
  | some e =>
    simp only [Option.isSome_some, Bool.not_true, Cb_true, Cb_false]
    refine LdV_has (v := .int .u64 e.2) hb2 (by subst hcs; simp [hl]) ?_
    simp only [OpI_int]
    refine Cb_of (fun hv => ?_) (fun hv => ?_)
    · have he : putE room es lba version = 2 := by
        simp only [decide_eq_true_eq] at hv
        simp only [putE, if_neg hr, hl, if_pos hv]
      rw [he] at hK
      simp only [Ret_nil]
      exact hK _ k3 (by simpa using h3)
    · have he : putE room es lba version = 0 := by
        simp only [decide_eq_false_iff_not, ge_iff_le] at hv
        simp only [putE, if_neg hr, hl, if_neg hv]
      rw [he] at hK
      exact put_tail h3 k3 hb3 fun w' hk' hc' => hK w' hk' (by simpa using hc')
  | none =>
    simp only [Option.isSome_none, Bool.not_false, Cb_true, Cb_false]
    refine cache_Full h3 fun d => ?_
    simp only [OpB_bool]
    refine Cb_of (fun hv => ?_) (fun hv => ?_)
    · have he : putE room es lba version = 9 := by
        simp only [decide_eq_true_eq] at hv
        simp only [putE, if_neg hr, hl, if_pos hv]
      rw [he] at hK
      simp only [Ret_nil]
      exact hK _ (k3.dr d) (by simpa using h3.keep ((Keep.refl (fun _ => False) w3).dr d) (by simp) (by simp))
    · have he : putE room es lba version = 0 := by
        simp only [decide_eq_false_iff_not] at hv
        simp only [putE, if_neg hr, hl, if_neg hv]
      rw [he] at hK
      exact put_tail (h3.keep ((Keep.refl (fun _ => False) w3).dr d) (by simp) (by simp)) (k3.dr d) (hb3.dr d) fun w' hk' hc' => hK w' hk' (by simpa using hc')
end Go.Proofs

/- PRINTED BY pr.py (own program): what the evaluator of <Name>Ev makes of the code of some functions. -/
namespace Go.Proofs
open Go.Ev
set_option linter.unusedVariables false
set_option maxRecDepth 100000
def F_mirror_side (n : Int) (w : World) (R : Value → World → Prop) : Prop :=
  Req ((n == 0) = (n == 0)) (Req ((n == 0) = (n == 0)) (Ret [] (R (.bool (cond (n == 0) true (n == 1))) w)))
theorem C_mirror_side {n : Int} {w : World} {R : Value → World → Prop} (h : F_mirror_side n w R) : CallV Tryz.prog 169 #[.int .i64 n] w R := by
  exact calls_of_F (args := [.int .i64 n]) (mkAnn [] [] [] [] []) Tryz_mixed Tryz.func169 rfl rfl (by kernel_rfl) h
def F_mirror_Resume (a : Nat) (b : Nat) (room : Int) (epoch : Int) (last : Int) (dirtyp : Option Addr) (dirtyl : Nat) (dirtyc : Nat) (w : World) (R : Value → World → Prop) : Prop :=
  CallV Tryz.prog 211 #[.int .i64 room] w fun v w => T2 v fun v1 v2 => OpP v1 (OpI .i64 v2 fun n => Req (false = false) (Req (false = false) (EqB Tryz.prog .eql 104 (.tmp
  35) (.tmp 36) (.pointer (some ⟨a, 0, none⟩) : Value) (.pointer (some ⟨b, 0, none⟩) : Value) (At w) fun g => Req (g = g) (Req (g = g) (Cb (cond g true (n != 0)) (Ret [] (R
  (.tuple #[.pointer none, .int .i64 2]) w)) (DoV Tryz.prog (Instr.makeMap 316 none) w fun v3 w => OpM v3 fun m => LoopC (σ := Int × Unit) (fun _ s1 w K1 => Cb (decide (s1.1
  < ((dirtyl : Nat) : Int))) (IdxS dirtyp dirtyl s1.1 19 fun b1 o => LdA 19 b1 o (At w) fun cs => Alc 246 (zc Tryz.prog 246) w fun b2 w => StA 19 b2 0 cs w fun w => LdV b2 2
  (At w) fun v4 => OpI .i64 v4 fun n1 => DoQ Tryz.prog (Instr.lookup 316 (.map m) (.int .i64 n1) true) (At w) fun v5 => T2 v5 fun v6 v7 => OpA 0 v6 fun cs1 => OpB v7 fun g1
  => Alc 130 (zc Tryz.prog 130) w fun b3 w => StA 0 b3 0 cs1 w fun w => LdV b2 0 (At w) fun v8 => OpI .i64 v8 fun n2 => Cb (n2 != 1) (Req (true = true) (Ret [] (R (.tuple
  #[.pointer none, .int .i64 2]) w))) (LdV b2 2 (At w) fun v9 => OpI .i64 v9 fun n3 => Cb (decide (n3 < 0)) (Req (true = true) (Ret [] (R (.tuple #[.pointer none, .int .i64
  2]) w))) (LdV b2 2 (At w) fun v10 => OpI .i64 v10 fun n4 => Cb (decide (n4 > 2147483647)) (Req (true = true) (Ret [] (R (.tuple #[.pointer none, .int .i64 2]) w))) (LdV b2
  1 (At w) fun v11 => OpI .u64 v11 fun n5 => Req ((decide (n5 > last)) = (decide (n5 > last))) (Cb (cond (decide (n5 > last)) true g1) (Ret [] (R (.tuple #[.pointer none,
  .int .i64 2]) w)) (LdV b2 2 (At w) fun v12 => OpI .i64 v12 fun n6 => DoQ Tryz.prog (Instr.build 130 #[]) (At w) fun v13 => OpA 0 v13 fun cs2 => DoU Tryz.prog
  (Instr.mapUpdate 316 (.map m) (.int .i64 n6) (.agg cs2)) w fun w => K1 (IntKind.wrap .i64 (s1.1 + 1), ()) w)))))) (Cb (decide (((dirtyl : Nat) : Int) > room)) (Ret [] (R
  (.tuple #[.pointer none, .int .i64 9]) w)) (LoopC (σ := Int × Unit) (fun _ s2 w K2 => Cb (decide (s2.1 < ((dirtyl : Nat) : Int))) (IdxS dirtyp dirtyl s2.1 19 fun b4 o1 =>
  LdA 19 b4 o1 (At w) fun cs3 => Alc 246 (zc Tryz.prog 246) w fun b5 w => StA 19 b5 0 cs3 w fun w => LdV b5 2 (At w) fun v14 => OpI .i64 v14 fun n7 => LdA 16 b5 3 (At w) fun
  cs4 => LdV b5 1 (At w) fun v15 => OpI .u64 v15 fun n8 => CallV Tryz.prog 212 #[.pointer none, .int .i64 n7, .agg cs4, .int .u64 n8] w fun v16 w => OpI .i64 v16 fun n9 =>
  K2 (IntKind.wrap .i64 (s2.1 + 1), ()) w) (DoQ Tryz.prog (Instr.build 136 #[(0, .pointer (some ⟨a, 0, none⟩)), (1, .pointer (some ⟨b, 0, none⟩))]) (At w) fun v17 => OpA 2
  v17 fun cs5 => DoQ Tryz.prog (Instr.build 138 #[(0, .bool true), (1, .bool true)]) (At w) fun v18 => OpA 2 v18 fun cs6 => DoQ Tryz.prog (Instr.build 153 #[(0, .pointer
  none), (1, .agg cs5), (2, .agg cs6), (3, .int .u32 epoch), (4, .int .u64 last)]) (At w) fun v19 => OpA 7 v19 fun cs7 => Alc 153 cs7 w fun b6 w => Ret [] (R (.tuple
  #[.pointer (some ⟨b6, 0, none⟩), .int .i64 0]) w))) (0, ()) w))) (0, ()) w)))))) fun b7 o2 => OpI .i64 v2 fun n10 => Req (false = false) (Req (false = false) (EqB
  Tryz.prog .eql 104 (.tmp 35) (.tmp 36) (.pointer (some ⟨a, 0, none⟩) : Value) (.pointer (some ⟨b, 0, none⟩) : Value) (At w) fun g2 => Req (g2 = g2) (Req (g2 = g2) (Cb
  (cond g2 true (n10 != 0)) (Ret [] (R (.tuple #[.pointer none, .int .i64 2]) w)) (DoV Tryz.prog (Instr.makeMap 316 none) w fun v20 w => OpM v20 fun m1 => LoopC (σ := Int ×
  Unit) (fun _ s3 w K3 => Cb (decide (s3.1 < ((dirtyl : Nat) : Int))) (IdxS dirtyp dirtyl s3.1 19 fun b8 o3 => LdA 19 b8 o3 (At w) fun cs8 => Alc 246 (zc Tryz.prog 246) w
  fun b9 w => StA 19 b9 0 cs8 w fun w => LdV b9 2 (At w) fun v21 => OpI .i64 v21 fun n11 => DoQ Tryz.prog (Instr.lookup 316 (.map m1) (.int .i64 n11) true) (At w) fun v22 =>
  T2 v22 fun v23 v24 => OpA 0 v23 fun cs9 => OpB v24 fun g3 => Alc 130 (zc Tryz.prog 130) w fun b10 w => StA 0 b10 0 cs9 w fun w => LdV b9 0 (At w) fun v25 => OpI .i64 v25
  fun n12 => Cb (n12 != 1) (Req (true = true) (Ret [] (R (.tuple #[.pointer none, .int .i64 2]) w))) (LdV b9 2 (At w) fun v26 => OpI .i64 v26 fun n13 => Cb (decide (n13 <
  0)) (Req (true = true) (Ret [] (R (.tuple #[.pointer none, .int .i64 2]) w))) (LdV b9 2 (At w) fun v27 => OpI .i64 v27 fun n14 => Cb (decide (n14 > 2147483647)) (Req (true
  = true) (Ret [] (R (.tuple #[.pointer none, .int .i64 2]) w))) (LdV b9 1 (At w) fun v28 => OpI .u64 v28 fun n15 => Req ((decide (n15 > last)) = (decide (n15 > last))) (Cb
  (cond (decide (n15 > last)) true g3) (Ret [] (R (.tuple #[.pointer none, .int .i64 2]) w)) (LdV b9 2 (At w) fun v29 => OpI .i64 v29 fun n16 => DoQ Tryz.prog (Instr.build
  130 #[]) (At w) fun v30 => OpA 0 v30 fun cs10 => DoU Tryz.prog (Instr.mapUpdate 316 (.map m1) (.int .i64 n16) (.agg cs10)) w fun w => K3 (IntKind.wrap .i64 (s3.1 + 1), ())
  w)))))) (Cb (decide (((dirtyl : Nat) : Int) > room)) (Ret [] (R (.tuple #[.pointer none, .int .i64 9]) w)) (LoopC (σ := Int × Unit) (fun _ s4 w K4 => Cb (decide (s4.1 <
  ((dirtyl : Nat) : Int))) (IdxS dirtyp dirtyl s4.1 19 fun b11 o4 => LdA 19 b11 o4 (At w) fun cs11 => Alc 246 (zc Tryz.prog 246) w fun b12 w => StA 19 b12 0 cs11 w fun w =>
  LdV b12 2 (At w) fun v31 => OpI .i64 v31 fun n17 => LdA 16 b12 3 (At w) fun cs12 => LdV b12 1 (At w) fun v32 => OpI .u64 v32 fun n18 => CallV Tryz.prog 212 #[.pointer
  (some ⟨b7, o2, none⟩), .int .i64 n17, .agg cs12, .int .u64 n18] w fun v33 w => OpI .i64 v33 fun n19 => K4 (IntKind.wrap .i64 (s4.1 + 1), ()) w) (DoQ Tryz.prog (Instr.build
  136 #[(0, .pointer (some ⟨a, 0, none⟩)), (1, .pointer (some ⟨b, 0, none⟩))]) (At w) fun v34 => OpA 2 v34 fun cs13 => DoQ Tryz.prog (Instr.build 138 #[(0, .bool true), (1,
  .bool true)]) (At w) fun v35 => OpA 2 v35 fun cs14 => DoQ Tryz.prog (Instr.build 153 #[(0, .pointer (some ⟨b7, o2, none⟩)), (1, .agg cs13), (2, .agg cs14), (3, .int .u32
  epoch), (4, .int .u64 last)]) (At w) fun v36 => OpA 7 v36 fun cs15 => Alc 153 cs15 w fun b13 w => Ret [] (R (.tuple #[.pointer (some ⟨b13, 0, none⟩), .int .i64 0]) w)))
  (0, ()) w))) (0, ()) w)))))
theorem C_mirror_Resume {a : Nat} {b : Nat} {room : Int} {epoch : Int} {last : Int} {dirtyp : Option Addr} {dirtyl : Nat} {dirtyc : Nat} {w : World} {R : Value → World → Prop} (h : F_mirror_Resume a b room epoch last dirtyp dirtyl dirtyc w R) : CallV Tryz.prog 139 #[.pointer (some ⟨a, 0, none⟩), .pointer (some ⟨b, 0, none⟩), .int .i64 room, .int .u32 epoch, .int .u64 last, .slice dirtyp dirtyl dirtyc] w R := by
  exact calls_of_F (args := [.pointer (some ⟨a, 0, none⟩), .pointer (some ⟨b, 0, none⟩), .int .i64 room, .int .u32 epoch, .int .u64 last, .slice dirtyp dirtyl dirtyc]) (mkAnn [(6, [(46, (.int .i64))]), (16, [(90, (.int .i64))])] [] [] [] []) Tryz_mixed Tryz.func139 rfl rfl (by kernel_rfl) h
def F_mirror_New (a : Nat) (b : Nat) (room : Int) (w : World) (R : Value → World → Prop) : Prop :=
  CallV Tryz.prog 139 #[.pointer (some ⟨a, 0, none⟩), .pointer (some ⟨b, 0, none⟩), .int .i64 room, .int .u32 0, .int .u64 0, .slice none 0 0] w fun v w => T2 v fun v1 v2 =>
  OpP v1 (OpI .i64 v2 fun n => Ret [] (R (.tuple #[.pointer none, .int .i64 n]) w)) fun b1 o => OpI .i64 v2 fun n1 => Ret [] (R (.tuple #[.pointer (some ⟨b1, o, none⟩), .int
  .i64 n1]) w)
theorem C_mirror_New {a : Nat} {b : Nat} {room : Int} {w : World} {R : Value → World → Prop} (h : F_mirror_New a b room w R) : CallV Tryz.prog 73 #[.pointer (some ⟨a, 0, none⟩), .pointer (some ⟨b, 0, none⟩), .int .i64 room] w R := by
  exact calls_of_F (args := [.pointer (some ⟨a, 0, none⟩), .pointer (some ⟨b, 0, none⟩), .int .i64 room]) (mkAnn [] [] [] [] []) Tryz_mixed Tryz.func73 rfl rfl (by kernel_rfl) h
def F_mirror_Pair_Up (p : Nat) (from_ : Int) (w : World) (R : Value → World → Prop) : Prop :=
  CallV Tryz.prog 169 #[.int .i64 from_] w fun v w => OpB v fun g => Cb (!g) (Ret [] (R (.slice none 0 0) w)) (DoV Tryz.prog (Instr.buildSlice 69 2 #[(0, .int .i64 from_),
  (1, .int .i64 (IntKind.wrap .i64 (1 - from_)))]) w fun v1 w => OpS v1 fun p1 l c => LoopC (σ := (Option Addr × Nat × Nat) × Int × Unit) (fun _ s1 w K1 => Cb (decide
  (s1.2.1 < ((l : Nat) : Int))) (IdxS p1 l s1.2.1 1 fun b o => LdV b o (At w) fun v2 => OpI .i64 v2 fun n => Req (0 ≤ n ∧ n < 2) (LdV p (3 + Int.toNat n * 1) (At w) fun v3
  => OpB v3 fun g1 => Cb g1 (Req (0 ≤ n ∧ n < 2) (LdV p (1 + Int.toNat n * 1) (At w) fun v4 => OpN v4 fun b1 o1 => DoV Tryz.prog (Instr.buildSlice 109 1 #[(0, .pointer (some
  ⟨b1, o1, none⟩))]) w fun v5 w => OpS v5 fun p2 l1 c1 => DoV Tryz.prog (Builtin.append_ #[109, 109] 109 #[.slice s1.1.1 s1.1.2.1 s1.1.2.2, .slice p2 l1 c1]) w fun v6 w =>
  OpS v6 fun p3 l2 c2 => K1 ((p3, l2, c2), (IntKind.wrap .i64 (s1.2.1 + 1), ())) w)) (K1 ((s1.1.1, s1.1.2.1, s1.1.2.2), (IntKind.wrap .i64 (s1.2.1 + 1), ())) w))) (Ret [] (R
  (.slice s1.1.1 s1.1.2.1 s1.1.2.2) w))) ((none, 0, 0), (0, ())) w)
theorem C_mirror_Pair_Up {p : Nat} {from_ : Int} {w : World} {R : Value → World → Prop} (h : F_mirror_Pair_Up p from_ w R) : CallV Tryz.prog 159 #[.pointer (some ⟨p, 0, none⟩), .int .i64 from_] w R := by
  exact calls_of_F (args := [.pointer (some ⟨p, 0, none⟩), .int .i64 from_]) (mkAnn [(5, [(5, .slice), (20, (.int .i64))])] [] [] [] []) Tryz_mixed Tryz.func159 rfl rfl (by kernel_rfl) h
def F_mirror_Pair_each (p : Nat) (from_ : Int) (x : Array Value) (w : World) (R : Value → World → Prop) : Prop :=
  Alc 246 x w fun b w => CallV Tryz.prog 159 #[.pointer (some ⟨p, 0, none⟩), .int .i64 from_] w fun v w => OpS v fun p1 l c => LoopC (σ := Int × Unit) (fun _ s1 w K1 => Cb
  (decide (s1.1 < ((l : Nat) : Int))) (IdxS p1 l s1.1 1 fun b1 o => LdV b1 o (At w) fun v1 => OpN v1 fun b2 o1 => LdA 19 b 0 (At w) fun cs => CallV Tryz.prog 165 #[.pointer
  (some ⟨b2, o1, none⟩), .agg cs] w fun v2 w => OpI .i64 v2 fun n => Cb (n != 0) (Ret [] (R (.int .i64 n) w)) (K1 (IntKind.wrap .i64 (s1.1 + 1), ()) w)) (Ret [] (R (.int
  .i64 0) w))) (0, ()) w
theorem C_mirror_Pair_each {p : Nat} {from_ : Int} {x : Array Value} {w : World} {R : Value → World → Prop} (h : F_mirror_Pair_each p from_ x w R) : CallV Tryz.prog 222 #[.pointer (some ⟨p, 0, none⟩), .int .i64 from_, .agg x] w R := by
  exact calls_of_F (args := [.pointer (some ⟨p, 0, none⟩), .int .i64 from_, .agg x]) (mkAnn [(2, [(14, (.int .i64))])] [] [] [] []) Tryz_mixed Tryz.func222 rfl rfl (by kernel_rfl) h
def F_mirror_Pair_Take (p : Nat) (w : World) (R : Value → World → Prop) : Prop :=
  LdV p 6 (At w) fun v => OpI .u64 v fun n => StV p 6 (.int .u64 (IntKind.wrap .u64 (n + 1))) w fun w => LdV p 6 (At w) fun v1 => OpI .u64 v1 fun n1 => Ret [] (R (.int .u64
  n1) w)
theorem C_mirror_Pair_Take {p : Nat} {w : World} {R : Value → World → Prop} (h : F_mirror_Pair_Take p w R) : CallV Tryz.prog 158 #[.pointer (some ⟨p, 0, none⟩)] w R := by
  exact calls_of_F (args := [.pointer (some ⟨p, 0, none⟩)]) (mkAnn [] [] [] [] []) Tryz_mixed Tryz.func158 rfl rfl (by kernel_rfl) h
def F_mirror_Pair_Get (p : Nat) (lba : Int) (w : World) (R : Value → World → Prop) : Prop :=
  Alc 37 (zc Tryz.prog 37) w fun b w => LdV p 0 (At w) fun v => OpN v fun b1 o => CallV Tryz.prog 225 #[.pointer (some ⟨b1, o, none⟩), .int .i64 lba] w fun v1 w => T3 v1 fun
  v2 v3 v4 => OpA 16 v2 fun cs => OpI .u64 v3 fun n => OpI .i64 v4 fun n1 => StA 16 b 0 cs w fun w => LdA 16 b 0 (At w) fun cs1 => Ret [] (R (.tuple #[.agg cs1, .int .u64 n,
  .int .i64 n1]) w)
theorem C_mirror_Pair_Get {p : Nat} {lba : Int} {w : World} {R : Value → World → Prop} (h : F_mirror_Pair_Get p lba w R) : CallV Tryz.prog 154 #[.pointer (some ⟨p, 0, none⟩), .int .i64 lba] w R := by
  exact calls_of_F (args := [.pointer (some ⟨p, 0, none⟩), .int .i64 lba]) (mkAnn [] [] [] [] []) Tryz_mixed Tryz.func154 rfl rfl (by kernel_rfl) h
def F_mirror_Pair_Full (p : Nat) (w : World) (R : Value → World → Prop) : Prop :=
  LdV p 0 (At w) fun v => OpN v fun b o => CallV Tryz.prog 226 #[.pointer (some ⟨b, o, none⟩)] w fun v1 w => OpB v1 fun g => Ret [] (R (.bool g) w)
theorem C_mirror_Pair_Full {p : Nat} {w : World} {R : Value → World → Prop} (h : F_mirror_Pair_Full p w R) : CallV Tryz.prog 155 #[.pointer (some ⟨p, 0, none⟩)] w R := by
  exact calls_of_F (args := [.pointer (some ⟨p, 0, none⟩)]) (mkAnn [] [] [] [] []) Tryz_mixed Tryz.func155 rfl rfl (by kernel_rfl) h
def F_mirror_Pair_Put (p : Nat) (from_ : Int) (lba : Int) (data : Array Value) (w : World) (R : Value → World → Prop) : Prop :=
  Alc 37 data w fun b w => CallV Tryz.prog 169 #[.int .i64 from_] w fun v w => OpB v fun g => Req ((!g) = (!g)) (Req ((!g) = (!g)) (Req ((cond (!g) true (decide (lba < 0)))
  = (cond (!g) true (decide (lba < 0)))) (Req ((cond (!g) true (decide (lba < 0))) = (cond (!g) true (decide (lba < 0)))) (Cb (cond (cond (!g) true (decide (lba < 0))) true
  (decide (lba > 2147483647))) (Ret [] (R (.tuple #[.int .u64 0, .int .i64 2]) w)) (Req (0 ≤ from_ ∧ from_ < 2) (LdV p (3 + Int.toNat from_ * 1) (At w) fun v1 => OpB v1 fun
  g1 => Cb (!g1) (Ret [] (R (.tuple #[.int .u64 0, .int .i64 13]) w)) (CallV Tryz.prog 154 #[.pointer (some ⟨p, 0, none⟩), .int .i64 lba] w fun v2 w => T3 v2 fun v3 v4 v5 =>
  OpA 16 v3 fun cs => OpI .u64 v4 fun n => OpI .i64 v5 fun n1 => Alc 37 (zc Tryz.prog 37) w fun b1 w => StA 16 b1 0 cs w fun w => Cb (n1 != 0) (CallV Tryz.prog 155
  #[.pointer (some ⟨p, 0, none⟩)] w fun v6 w => OpB v6 fun g2 => Cb g2 (Ret [] (R (.tuple #[.int .u64 0, .int .i64 9]) w)) (CallV Tryz.prog 158 #[.pointer (some ⟨p, 0,
  none⟩)] w fun v7 w => OpI .u64 v7 fun n2 => LdA 16 b 0 (At w) fun cs1 => DoQ Tryz.prog (Instr.build 246 #[(0, .int .i64 1), (1, .int .u64 n2), (2, .int .i64 lba), (3, .agg
  cs1)]) (At w) fun v8 => OpA 19 v8 fun cs2 => CallV Tryz.prog 222 #[.pointer (some ⟨p, 0, none⟩), .int .i64 from_, .agg cs2] w fun v9 w => OpI .i64 v9 fun n3 => Cb (n3 !=
  0) (Ret [] (R (.tuple #[.int .u64 0, .int .i64 n3]) w)) (HeldR w fun S w => LdV p 0 (At w) fun v10 => OpN v10 fun b2 o => LdA 16 b 0 (At w) fun cs3 => CallV Tryz.prog 212
  #[.pointer (some ⟨b2, o, none⟩), .int .i64 lba, .agg cs3, .int .u64 n2] w fun v11 w => OpI .i64 v11 fun n4 => Hld (S w) (Ret [] (R (.tuple #[.int .u64 n2, .int .i64 0])
  w))))) (CallV Tryz.prog 158 #[.pointer (some ⟨p, 0, none⟩)] w fun v12 w => OpI .u64 v12 fun n5 => LdA 16 b 0 (At w) fun cs4 => DoQ Tryz.prog (Instr.build 246 #[(0, .int
  .i64 1), (1, .int .u64 n5), (2, .int .i64 lba), (3, .agg cs4)]) (At w) fun v13 => OpA 19 v13 fun cs5 => CallV Tryz.prog 222 #[.pointer (some ⟨p, 0, none⟩), .int .i64
  from_, .agg cs5] w fun v14 w => OpI .i64 v14 fun n6 => Cb (n6 != 0) (Ret [] (R (.tuple #[.int .u64 0, .int .i64 n6]) w)) (HeldR w fun S w => LdV p 0 (At w) fun v15 => OpN
  v15 fun b3 o1 => LdA 16 b 0 (At w) fun cs6 => CallV Tryz.prog 212 #[.pointer (some ⟨b3, o1, none⟩), .int .i64 lba, .agg cs6, .int .u64 n5] w fun v16 w => OpI .i64 v16 fun
  n7 => Hld (S w) (Ret [] (R (.tuple #[.int .u64 n5, .int .i64 0]) w)))))))))))
theorem C_mirror_Pair_Put {p : Nat} {from_ : Int} {lba : Int} {data : Array Value} {w : World} {R : Value → World → Prop} (h : F_mirror_Pair_Put p from_ lba data w R) : CallV Tryz.prog 156 #[.pointer (some ⟨p, 0, none⟩), .int .i64 from_, .int .i64 lba, .agg data] w R := by
  exact calls_of_F (args := [.pointer (some ⟨p, 0, none⟩), .int .i64 from_, .int .i64 lba, .agg data]) (mkAnn [] [] [] [] [71]) Tryz_mixed Tryz.func156 rfl rfl (by kernel_rfl) h
def F_mirror_Pair_Next (p : Nat) (w : World) (R : Value → World → Prop) : Prop :=
  Alc 246 (zc Tryz.prog 246) w fun b w => LdV p 0 (At w) fun v => OpN v fun b1 o => CallV Tryz.prog 227 #[.pointer (some ⟨b1, o, none⟩)] w fun v1 w => T2 v1 fun v2 v3 => OpA
  19 v2 fun cs => OpI .i64 v3 fun n => StA 19 b 0 cs w fun w => LdA 19 b 0 (At w) fun cs1 => Ret [] (R (.tuple #[.agg cs1, .int .i64 n]) w)
theorem C_mirror_Pair_Next {p : Nat} {w : World} {R : Value → World → Prop} (h : F_mirror_Pair_Next p w R) : CallV Tryz.prog 157 #[.pointer (some ⟨p, 0, none⟩)] w R := by
  exact calls_of_F (args := [.pointer (some ⟨p, 0, none⟩)]) (mkAnn [] [] [] [] []) Tryz_mixed Tryz.func157 rfl rfl (by kernel_rfl) h
def F_mirror_Pair_Dirty (p : Nat) (w : World) (R : Value → World → Prop) : Prop :=
  LdV p 0 (At w) fun v => OpN v fun b o => CallV Tryz.prog 262 #[.pointer (some ⟨b, o, none⟩)] w fun v1 w => OpS v1 fun p1 l c => Ret [] (R (.slice p1 l c) w)
theorem C_mirror_Pair_Dirty {p : Nat} {w : World} {R : Value → World → Prop} (h : F_mirror_Pair_Dirty p w R) : CallV Tryz.prog 236 #[.pointer (some ⟨p, 0, none⟩)] w R := by
  exact calls_of_F (args := [.pointer (some ⟨p, 0, none⟩)]) (mkAnn [] [] [] [] []) Tryz_mixed Tryz.func236 rfl rfl (by kernel_rfl) h
def F_mirror_Pair_Flushed (p : Nat) (lba : Int) (version : Int) (w : World) (R : Value → World → Prop) : Prop :=
  CallV Tryz.prog 154 #[.pointer (some ⟨p, 0, none⟩), .int .i64 lba] w fun v w => T3 v fun v1 v2 v3 => OpA 16 v1 fun cs => OpI .u64 v2 fun n => OpI .i64 v3 fun n1 => Alc 37
  (zc Tryz.prog 37) w fun b w => StA 16 b 0 cs w fun w => Cb (n1 != 0) (Ret [] (R (.int .i64 n1) w)) (Cb (decide (n > version)) (Ret [] (R (.int .i64 12) w)) (DoQ Tryz.prog
  (Instr.build 246 #[(0, .int .i64 2), (1, .int .u64 version), (2, .int .i64 lba)]) (At w) fun v4 => OpA 19 v4 fun cs1 => CallV Tryz.prog 222 #[.pointer (some ⟨p, 0, none⟩),
  .int .i64 0, .agg cs1] w fun v5 w => OpI .i64 v5 fun n2 => Cb (n2 != 0) (Ret [] (R (.int .i64 n2) w)) (LdV p 0 (At w) fun v6 => OpN v6 fun b1 o => CallV Tryz.prog 228
  #[.pointer (some ⟨b1, o, none⟩), .int .i64 lba, .int .u64 version] w fun v7 w => OpI .i64 v7 fun n3 => Ret [] (R (.int .i64 n3) w))))
theorem C_mirror_Pair_Flushed {p : Nat} {lba : Int} {version : Int} {w : World} {R : Value → World → Prop} (h : F_mirror_Pair_Flushed p lba version w R) : CallV Tryz.prog 160 #[.pointer (some ⟨p, 0, none⟩), .int .i64 lba, .int .u64 version] w R := by
  exact calls_of_F (args := [.pointer (some ⟨p, 0, none⟩), .int .i64 lba, .int .u64 version]) (mkAnn [] [] [] [] []) Tryz_mixed Tryz.func160 rfl rfl (by kernel_rfl) h
def F_mirror_Pair_Stamp (p : Nat) (epoch : Int) (w : World) (R : Value → World → Prop) : Prop :=
  DoQ Tryz.prog (Instr.build 246 #[(0, .int .i64 6), (1, .int .u64 (IntKind.wrap .u64 epoch))]) (At w) fun v => OpA 19 v fun cs => CallV Tryz.prog 222 #[.pointer (some ⟨p,
  0, none⟩), .int .i64 0, .agg cs] w fun v1 w => OpI .i64 v1 fun n => Cb (n != 0) (Ret [] (R (.int .i64 n) w)) (StV p 5 (.int .u32 epoch) w fun w => Ret [] (R (.int .i64 0)
  w))
theorem C_mirror_Pair_Stamp {p : Nat} {epoch : Int} {w : World} {R : Value → World → Prop} (h : F_mirror_Pair_Stamp p epoch w R) : CallV Tryz.prog 146 #[.pointer (some ⟨p, 0, none⟩), .int .u32 epoch] w R := by
  exact calls_of_F (args := [.pointer (some ⟨p, 0, none⟩), .int .u32 epoch]) (mkAnn [] [] [] [] []) Tryz_mixed Tryz.func146 rfl rfl (by kernel_rfl) h
def F_mirror_Pair_Leave (p : Nat) (n : Int) (w : World) (R : Value → World → Prop) : Prop :=
  CallV Tryz.prog 169 #[.int .i64 n] w fun v w => OpB v fun g => Cb (!g) (Ret [] (R (.int .i64 2) w)) (Req (0 ≤ (0 : Int) ∧ (0 : Int) < 2) (LdV p (3 + Int.toNat 0 * 1) (At
  w) fun v1 => OpB v1 fun g1 => Cb (!g1) (Ret [] (R (.int .i64 13) w)) (Req (0 ≤ (1 : Int) ∧ (1 : Int) < 2) (LdV p (3 + Int.toNat 1 * 1) (At w) fun v2 => OpB v2 fun g2 => Cb
  (!g2) (Ret [] (R (.int .i64 13) w)) (Req (0 ≤ n ∧ n < 2) (StV p (3 + Int.toNat n * 1) (.bool false) w fun w => Ret [] (R (.int .i64 0) w)))))))
theorem C_mirror_Pair_Leave {p : Nat} {n : Int} {w : World} {R : Value → World → Prop} (h : F_mirror_Pair_Leave p n w R) : CallV Tryz.prog 143 #[.pointer (some ⟨p, 0, none⟩), .int .i64 n] w R := by
  exact calls_of_F (args := [.pointer (some ⟨p, 0, none⟩), .int .i64 n]) (mkAnn [] [] [] [] []) Tryz_mixed Tryz.func143 rfl rfl (by kernel_rfl) h
def F_mirror_Pair_short (p : Nat) (w : World) (R : Value → World → Prop) : Prop :=
  HeldR w fun S w => LdV p 5 S fun v => OpI .u32 v fun n => DoQ Tryz.prog (Instr.build 246 #[(0, .int .i64 6), (1, .int .u64 (IntKind.wrap .u64 n))]) S fun v1 => OpA 19 v1
  fun cs => (DoV Tryz.prog (Instr.buildSlice 113 1 #[(0, .agg cs)]) w fun v2 w => OpS v2 fun p1 l c => Hld (S w) (CallV Tryz.prog 236 #[.pointer (some ⟨p, 0, none⟩)] w fun
  v3 w => OpS v3 fun p2 l1 c1 => Hld (S w) (DoV Tryz.prog (Builtin.append_ #[113, 113] 113 #[.slice p1 l c, .slice p2 l1 c1]) w fun v4 w => OpS v4 fun p3 l2 c2 => Hld (S w)
  (Ret [] (R (.slice p3 l2 c2) w))))) ∧ (CallV Tryz.prog 236 #[.pointer (some ⟨p, 0, none⟩)] w fun v5 w => OpS v5 fun p4 l3 c3 => Hld (S w) (DoV Tryz.prog (Instr.buildSlice
  113 1 #[(0, .agg cs)]) w fun v6 w => OpS v6 fun p5 l4 c4 => Hld (S w) (DoV Tryz.prog (Builtin.append_ #[113, 113] 113 #[.slice p5 l4 c4, .slice p4 l3 c3]) w fun v7 w =>
  OpS v7 fun p6 l5 c5 => Hld (S w) (Ret [] (R (.slice p6 l5 c5) w)))))
theorem C_mirror_Pair_short {p : Nat} {w : World} {R : Value → World → Prop} (h : F_mirror_Pair_short p w R) : CallV Tryz.prog 171 #[.pointer (some ⟨p, 0, none⟩)] w R := by
  exact calls_of_F (args := [.pointer (some ⟨p, 0, none⟩)]) (mkAnn [] [] [] [] [11]) Tryz_mixed Tryz.func171 rfl rfl (by kernel_rfl) h
def F_mirror_Pair_Join (p : Nat) (n : Int) (w : World) (R : Value → World → Prop) : Prop :=
  CallV Tryz.prog 169 #[.int .i64 n] w fun v w => OpB v fun g => Cb (!g) (Ret [] (R (.int .i64 2) w)) (Req (0 ≤ n ∧ n < 2) (LdV p (3 + Int.toNat n * 1) (At w) fun v1 => OpB
  v1 fun g1 => Cb g1 (Ret [] (R (.int .i64 11) w)) (HeldR w fun S w => Req (0 ≤ n ∧ n < 2) (LdV p (1 + Int.toNat n * 1) S fun v2 => OpN v2 fun b o => CallV Tryz.prog 171
  #[.pointer (some ⟨p, 0, none⟩)] w fun v3 w => OpS v3 fun p1 l c => Hld (S w) (CallV Tryz.prog 170 #[.pointer (some ⟨b, o, none⟩), .slice p1 l c] w fun v4 w => OpI .i64 v4
  fun n1 => Hld (S w) (Cb (n1 != 0) (Ret [] (R (.int .i64 n1) w)) (Req (0 ≤ n ∧ n < 2) (StV p (3 + Int.toNat n * 1) (.bool true) w fun w => Ret [] (R (.int .i64 0)
  w)))))))))
theorem C_mirror_Pair_Join {p : Nat} {n : Int} {w : World} {R : Value → World → Prop} (h : F_mirror_Pair_Join p n w R) : CallV Tryz.prog 92 #[.pointer (some ⟨p, 0, none⟩), .int .i64 n] w R := by
  exact calls_of_F (args := [.pointer (some ⟨p, 0, none⟩), .int .i64 n]) (mkAnn [] [] [] [] [28, 29]) Tryz_mixed Tryz.func92 rfl rfl (by kernel_rfl) h
def F_mirror_Pair_Compact (p : Nat) (w : World) (R : Value → World → Prop) : Prop :=
  CallV Tryz.prog 159 #[.pointer (some ⟨p, 0, none⟩), .int .i64 0] w fun v w => OpS v fun p1 l c => LoopC (σ := Int × Unit) (fun _ s1 w K1 => Cb (decide (s1.1 < ((l : Nat) :
  Int))) (IdxS p1 l s1.1 1 fun b o => LdV b o (At w) fun v1 => OpN v1 fun b1 o1 => CallV Tryz.prog 171 #[.pointer (some ⟨p, 0, none⟩)] w fun v2 w => OpS v2 fun p2 l1 c1 =>
  CallV Tryz.prog 170 #[.pointer (some ⟨b1, o1, none⟩), .slice p2 l1 c1] w fun v3 w => OpI .i64 v3 fun n => Cb (n != 0) (Ret [] (R (.int .i64 n) w)) (K1 (IntKind.wrap .i64
  (s1.1 + 1), ()) w)) (Ret [] (R (.int .i64 0) w))) (0, ()) w
theorem C_mirror_Pair_Compact {p : Nat} {w : World} {R : Value → World → Prop} (h : F_mirror_Pair_Compact p w R) : CallV Tryz.prog 168 #[.pointer (some ⟨p, 0, none⟩)] w R := by
  exact calls_of_F (args := [.pointer (some ⟨p, 0, none⟩)]) (mkAnn [(4, [(11, (.int .i64))])] [] [] [] []) Tryz_mixed Tryz.func168 rfl rfl (by kernel_rfl) h
end Go.Proofs

/-
  THE PAIR: its parts, its memories that are up, a record to each of them.
-/
namespace Go.Proofs
open Go Go.Ev
set_option linter.unusedSimpArgs false
set_option linter.unusedVariables false
set_option maxRecDepth 100000

/-- where a pair's parts lie -/
structure PB where
  p : Nat
  c : Nat
  mp : Nat
  m : Nat
  a : Nat
  b : Nat
  base : Nat
  room : Int
  sz : Int
/-- what a pair is -/
structure PS where
  es : List (Int × Ent)
  last : Int
  epoch : Int
  ua : Bool
  ub : Bool
  pw : Pow
  xa : List Int
  xb : List Int
def pairC (q : PB) (s : PS) : Array Value := #[.pointer (some ⟨q.c, 0, none⟩), .pointer (some ⟨q.a, 0, none⟩), .pointer (some ⟨q.b, 0, none⟩), .bool s.ua, .bool s.ub, .int .u32 s.epoch, .int .u64 s.last]
structure PairAt (w : World) (q : PB) (s : PS) : Prop where
  cells : Has w q.p (.cells (pairC q s) 153 (0, 0))
  cache : CacheAt w q.c q.mp q.room s.es
  main : MaAt w q.m s.pw
  rams : ∃ pa la ca pb lb cb, RaAt w q.base q.m q.a q.sz pa la ca s.xa ∧ RaAt w q.base q.m q.b q.sz pb lb cb s.xb ∧ ∀ k, pa = some ⟨k, 0, none⟩ → ¬ pb = some ⟨k, 0, none⟩
  ne : q.a ≠ q.b
  fit : (s.xa.length : Int) ≤ q.sz ∧ (s.xb.length : Int) ≤ q.sz
  form : 37 ≤ q.sz ∧ q.sz ≤ 65536
  low : q.base ≤ q.p
/-- what a call may change -/
def PFoot (q : PB) (w : World) (k : Nat) : Prop := k = q.p ∨ k = q.mp ∨ k = q.m ∨ k = q.a ∨ k = q.b ∨ (q.base ≤ k ∧ ∃ cs, Has w k (.cells cs 5 (0, 0)))
theorem PFoot.trans {q : PB} {w w1 w2 : World} (h : Keep (PFoot q w) w w1) (k : Keep (PFoot q w1) w1 w2) : Keep (PFoot q w) w w2 :=
  h.trans' k fun i hi hf => Classical.byContradiction fun hn => by
    rcases hf with e | e | e | e | e | ⟨hb, cs, hc⟩
    · exact hn (Or.inl e)
    · exact hn (Or.inr (Or.inl e))
    · exact hn (Or.inr (Or.inr (Or.inl e)))
    · exact hn (Or.inr (Or.inr (Or.inr (Or.inl e))))
    · exact hn (Or.inr (Or.inr (Or.inr (Or.inr (Or.inl e)))))
    · exact hn (Or.inr (Or.inr (Or.inr (Or.inr (Or.inr ⟨hb, cs, (h.block i hi hn).symm.trans hc⟩)))))
theorem PFoot.none {q : PB} {w w' : World} (h : Keep (fun _ => False) w w') : Keep (PFoot q w) w w' := h.mono fun _ h => h.elim
theorem PFoot.not {q : PB} {s : PS} {w : World} {k : Nat} {cs : Array Value} {t : TypeId} {f : Nat × Nat} (hk : Has w k (.cells cs t f)) (ht : t ≠ 5) (hp : PairAt w q s) (h1 : t ≠ 153) (h2 : t ≠ 209) (h3 : t ≠ 214) : ¬ PFoot q w k := by
  have no : ∀ {cs' : Array Value} {t' : TypeId} {f' : Nat × Nat} {b : Nat}, Has w b (.cells cs' t' f') → t ≠ t' → k ≠ b := by
    intro cs' t' f' b hb ht' e
    subst e
    have := hk.inj hb
    simp only [Obj.cells.injEq] at this
    exact ht' this.2.1
  rintro (e | e | e | e | e | ⟨_, cs', hc⟩)
  · exact no hp.cells h1 e
  · obtain ⟨_, arr, clk, hm, _⟩ := hp.cache
    subst e
    have := hk.inj hm
    cases this
  · exact no (show Has w _ _ from hp.main) h2 e
  · obtain ⟨_, _, _, _, _, _, ha, _, _⟩ := hp.rams
    exact no ha.cells h3 e
  · obtain ⟨_, _, _, _, _, _, _, hb, _⟩ := hp.rams
    exact no hb.cells h3 e
  · exact no hc ht rfl
/-- what is no byte and none of the pair's parts stays -/
theorem PFoot.has {q : PB} {s : PS} {w w' : World} (h : Keep (PFoot q w) w w') {k : Nat} {cs : Array Value} {t : TypeId} {f : Nat × Nat} (hk : Has w k (.cells cs t f)) (ht : t ≠ 5) (hp : PairAt w q s) (h1 : t ≠ 153) (h2 : t ≠ 209) (h3 : t ≠ 214) : Has w' k (.cells cs t f) :=
  h.has hk (PFoot.not hk ht hp h1 h2 h3)
theorem PFoot.own {α : Type} {L : Lay α} {q : PB} {s : PS} {w w' : World} (h : Keep (PFoot q w) w w') {b : Nat} {t : TypeId} {p : Option Addr} {l c : Nat} {xs : List α} (ho : OwnL L w b t p l c xs) (ht : t ≠ 5) (hp : PairAt w q s) (h1 : t ≠ 153) (h2 : t ≠ 209) (h3 : t ≠ 214) : OwnL L w' b t p l c xs := by
  refine ho.keep h fun k hk => ?_
  rcases Own.cases ho with ⟨h0, _⟩ | ⟨b', cur, h0, _, hg, _⟩
  · rw [h0] at hk; cases hk
  · rw [h0] at hk; cases hk
    exact PFoot.not hg ht hp h1 h2 h3
theorem RaAt.keep {w w' : World} {base m r : Nat} {size : Int} {p : Option Addr} {l c : Nat} {bs : List Int} {S : Nat → Prop} (h : RaAt w base m r size p l c bs) (k : Keep S w w') (h1 : ¬ S r) (h2 : ∀ k, p = some ⟨k, 0, none⟩ → ¬ S k) : RaAt w' base m r size p l c bs :=
  ⟨k.has h.cells h1, h.row.keep k h2⟩
theorem PairAt.keep {w w' : World} {q : PB} {s : PS} (h : PairAt w q s) (k : Keep (fun _ => False) w w') : PairAt w' q s := by
  obtain ⟨pa, la, ca, pb, lb, cb, ha, hb, hne⟩ := h.rams
  exact ⟨k.has h.cells (by simp), h.cache.keep k (by simp) (by simp), k.has h.main (by simp), ⟨pa, la, ca, pb, lb, cb, ha.keep k (by simp) (by simp), hb.keep k (by simp) (by simp), hne⟩, h.ne, h.fit, h.form, h.low⟩
theorem PairAt.hb {w : World} {q : PB} {s : PS} (h : PairAt w q s) : q.base ≤ w.heap.size := by have := h.cells.lt; have := h.low; omega

/-- a record to one side: the answer, and the pair behind it -/
def app1 (sz : Int) (x : Rec) (f : Bool) (s : PS) : Int × PS :=
  match f with
  | false => let r := appP s.pw sz s.xa x; (r.1, { s with pw := r.2.1, xa := r.2.2 })
  | true => let r := appP s.pw sz s.xb x; (r.1, { s with pw := r.2.1, xb := r.2.2 })
/-- the sides that are up, this one first -/
def upS (s : PS) (f : Bool) : List Bool := [f, !f].filter fun g => cond g s.ub s.ua
def eachS (sz : Int) (x : Rec) : List Bool → PS → Int × PS
  | [], s => (0, s)
  | f :: fs, s => if (app1 sz x f s).1 ≠ 0 then app1 sz x f s else eachS sz x fs (app1 sz x f s).2
def eachP (sz : Int) (x : Rec) (f : Bool) (s : PS) : Int × PS := eachS sz x (upS s f) s
def sideN (f : Bool) : Int := cond f 1 0
def ramB (q : PB) (f : Bool) : Nat := cond f q.b q.a
theorem appP_len {pw : Pow} {sz : Int} {bs : List Int} {x : Rec} (h : (bs.length : Int) ≤ sz) : ((appP pw sz bs x).2.2.length : Int) ≤ sz := by
  unfold appP
  split
  · exact h
  · split
    · exact h
    · rename_i h1 h2
      have h2 : ¬ (sz - (bs.length : Int)) / 37 < 1 := h2
      have : 37 ≤ sz - (bs.length : Int) := by omega
      split <;> simp <;> omega
section calls
variable {w : World} {q : PB} {s : PS} {R : Value → World → Prop}
theorem pr_app (h : PairAt w q s) {x : Rec} {f : Bool} (hx : recGood x = true) (hK : ∀ w', PairAt w' q (app1 q.sz x f s).2 → Keep (PFoot q w) w w' → R (.int .i64 (app1 q.sz x f s).1) w') :
    CallV Tryz.prog 165 #[.pointer (some ⟨ramB q f, 0, none⟩), .agg (recV x)] w R := by
  obtain ⟨pa, la, ca, pb, lb, cb, ha, hb, hne⟩ := h.rams
  have inj : ∀ {k : Nat} {cs cs' : Array Value} {t t' : TypeId} {f f' : Nat × Nat}, Has w k (.cells cs t f) → Has w k (.cells cs' t' f') → t = t' := by
    intro k cs cs' t t' f f' h1 h2
    have := h1.inj h2
    simp only [Obj.cells.injEq] at this
    exact this.2.1
  have nmap : ∀ {k : Nat} {cs : Array Value} {t : TypeId} {f : Nat × Nat}, Has w k (.cells cs t f) → k ≠ q.mp := by
    intro k cs t f h1 e
    obtain ⟨_, arr, clk, hm, _⟩ := h.cache
    subst e
    cases h1.inj hm
  have rowF : ∀ {p : Option Addr} {l c : Nat} {bs : List Int}, OwnL byLay w q.base 5 p l c bs → ∀ k, p = some ⟨k, 0, none⟩ → q.base ≤ k ∧ ∃ cs, Has w k (.cells cs 5 (0, 0)) := by
    intro p l c bs ho k hk
    rcases Own.cases ho with ⟨h0, _⟩ | ⟨b', cur, h0, hb', hg, _⟩
    · rw [h0] at hk; cases hk
    · rw [h0] at hk; cases hk; exact ⟨hb', cur, hg⟩
  have c1 : ∀ {r : Nat} {p : Option Addr} {l c : Nat} {bs : List Int}, RaAt w q.base q.m r q.sz p l c bs → ∀ {w' : World}, Keep (fun k => k = q.m ∨ k = r ∨ p = some ⟨k, 0, none⟩) w w' → (r = q.a ∨ r = q.b) →
      Keep (PFoot q w) w w' ∧ Has w' q.p (.cells (pairC q s) 153 (0, 0)) ∧ CacheAt w' q.c q.mp q.room s.es := by
    intro r p l c bs hr w' k hrr
    have hS : ∀ {k' : Nat} {cs : Array Value} {t : TypeId} {f : Nat × Nat}, Has w k' (.cells cs t f) → t ≠ 209 → t ≠ 214 → t ≠ 5 → ¬ (k' = q.m ∨ k' = r ∨ p = some ⟨k', 0, none⟩) := by
      intro k' cs t f hk h1 h2 h3 hor
      rcases hor with e | e | e
      · subst e; exact h1 (inj hk (show Has w _ _ from h.main))
      · subst e; exact h2 (inj hk hr.cells)
      · exact bytes_ne hr.row hk h3 e
    have hMap : ¬ (q.mp = q.m ∨ q.mp = r ∨ p = some ⟨q.mp, 0, none⟩) := by
      rintro (e | e | e)
      · exact nmap (show Has w _ _ from h.main) e.symm
      · exact nmap hr.cells e.symm
      · obtain ⟨_, cs, hc⟩ := rowF hr.row _ e
        exact nmap hc rfl
    refine ⟨k.mono ?_, k.has h.cells (hS h.cells (by decide) (by decide) (by decide)), h.cache.keep k (hS h.cache.1 (by decide) (by decide) (by decide)) hMap⟩
    rintro k' (e | e | e)
    · exact Or.inr (Or.inr (Or.inl e))
    · rcases hrr with h1 | h1
      · exact Or.inr (Or.inr (Or.inr (Or.inl (e.trans h1))))
      · exact Or.inr (Or.inr (Or.inr (Or.inr (Or.inl (e.trans h1)))))
    · exact Or.inr (Or.inr (Or.inr (Or.inr (Or.inr (rowF hr.row _ e)))))
  have other : ∀ {r r' : Nat} {p p' : Option Addr} {l l' c c' : Nat} {bs bs' : List Int}, RaAt w q.base q.m r q.sz p l c bs → RaAt w q.base q.m r' q.sz p' l' c' bs' → r ≠ r' → (∀ k, p = some ⟨k, 0, none⟩ → ¬ p' = some ⟨k, 0, none⟩) →
      ∀ {w' : World}, Keep (fun k => k = q.m ∨ k = r ∨ p = some ⟨k, 0, none⟩) w w' → RaAt w' q.base q.m r' q.sz p' l' c' bs' := by
    intro r r' p p' l l' c c' bs bs' hr hr' hn hpp w' k
    refine hr'.keep k ?_ ?_
    · rintro (e | e | e)
      · subst e; exact absurd (inj hr'.cells (show Has w _ _ from h.main)) (by decide)
      · exact hn e.symm
      · exact bytes_ne hr.row hr'.cells (by decide) e
    · rintro k' hk (e | e | e)
      · subst e; exact bytes_ne hr'.row (show Has w _ _ from h.main) (by decide) hk
      · subst e; exact bytes_ne hr'.row hr.cells (by decide) hk
      · exact hpp _ e hk
  cases f
  · show CallV Tryz.prog 165 #[.pointer (some ⟨q.a, 0, none⟩), .agg (recV x)] w R
    refine ra_Append ha h.main hx h.form.1 h.form.2 (by rw [ha.row.length]; exact h.fit.1) h.hb fun p' l' c' w' hr hm hp k => ?_
    obtain ⟨kf, hc, hca⟩ := c1 ha k (Or.inl rfl)
    refine hK w' ⟨hc, hca, hm, ⟨p', l', c', pb, lb, cb, hr, other ha hb h.ne hne k, ?_⟩, h.ne, ⟨appP_len h.fit.1, h.fit.2⟩, h.form, h.low⟩ kf
    intro k' hk' hpb
    rcases hp with e | ⟨k2, h2, e⟩
    · exact hne k' (e ▸ hk') hpb
    · rw [e] at hk'
      cases hk'
      have := (hb.row.lt hpb).2
      omega
  · show CallV Tryz.prog 165 #[.pointer (some ⟨q.b, 0, none⟩), .agg (recV x)] w R
    refine ra_Append hb h.main hx h.form.1 h.form.2 (by rw [hb.row.length]; exact h.fit.2) h.hb fun p' l' c' w' hr hm hp k => ?_
    obtain ⟨kf, hc, hca⟩ := c1 hb k (Or.inr rfl)
    refine hK w' ⟨hc, hca, hm, ⟨pa, la, ca, p', l', c', other hb ha h.ne.symm (fun k h1 h2 => hne k h2 h1) k, hr, ?_⟩, h.ne, ⟨h.fit.1, appP_len h.fit.2⟩, h.form, h.low⟩ kf
    intro k' hpa hk'
    rcases hp with e | ⟨k2, h2, e⟩
    · exact hne k' hpa (e ▸ hk')
    · rw [e] at hk'
      cases hk'
      have := (ha.row.lt hpa).2
      omega

/-! ### the memories that are up -/
def pLay : Lay Nat := ⟨1, fun b => [.pointer (some ⟨b, 0, none⟩)], fun _ => rfl, fun y v hv => by rw [List.mem_singleton.1 hv]; rfl, by decide⟩
def iLay : Lay Int := ⟨1, fun y => [.int .i64 y], fun _ => rfl, fun y v hv => by rw [List.mem_singleton.1 hv]; rfl, by decide⟩
theorem pLayT : LayT Tryz.prog pLay 109 104 8 := ⟨by kernel_rfl, ⟨(Tryz.prog.info? 104).get (by kernel_rfl), ((Tryz.prog.info? 104).get (by kernel_rfl)).zero.get (by kernel_rfl), by kernel_rfl, by kernel_rfl, by kernel_rfl, by kernel_rfl, by kernel_rfl⟩⟩
theorem bsl_p1 (b : Nat) (w : World) : (Instr.buildSlice 109 1 #[(0, .pointer (some ⟨b, 0, none⟩))]).run Tryz.prog w = .ok (.slice (some ⟨w.heap.size, 0, none⟩) 1 1) (w.alloc (.cells #[.pointer (some ⟨b, 0, none⟩)] 104)) :=
  run_buildSlice w 109 104 1 _ #[.pointer (some ⟨b, 0, none⟩)] ((Tryz.prog.info? 104).get (by kernel_rfl)) (((Tryz.prog.info? 104).get (by kernel_rfl)).zero.get (by kernel_rfl)) (by kernel_rfl) (by kernel_rfl) (by kernel_rfl) (by decide +kernel) (by decide +kernel) (by kernel_rfl)
theorem bsl_i2 (x y : Int) (w : World) : (Instr.buildSlice 69 2 #[(0, .int .i64 x), (1, .int .i64 y)]).run Tryz.prog w = .ok (.slice (some ⟨w.heap.size, 0, none⟩) 2 2) (w.alloc (.cells #[.int .i64 x, .int .i64 y] 3)) :=
  run_buildSlice w 69 3 2 _ #[.int .i64 x, .int .i64 y] ((Tryz.prog.info? 3).get (by kernel_rfl)) (((Tryz.prog.info? 3).get (by kernel_rfl)).zero.get (by kernel_rfl)) (by kernel_rfl) (by kernel_rfl) (by kernel_rfl) (by decide +kernel) (by decide +kernel) (by kernel_rfl)
theorem pr_side (n : Int) (hK : R (.bool (decide (n = 0) || decide (n = 1))) w) : CallV Tryz.prog 169 #[.int .i64 n] w R := by
  apply C_mirror_side
  unfold F_mirror_side
  refine ⟨rfl, rfl, ?_⟩
  refine Ret_nil.2 ?_
  have e : (cond (n == 0) true (n == 1)) = (decide (n = 0) || decide (n = 1)) := by
    have hd : ∀ k : Int, (n == k) = decide (n = k) := fun k => by rw [Bool.eq_iff_iff]; simp
    rw [hd, hd]
    cases decide (n = 0) <;> rfl
  rw [e]; exact hK
theorem pr_Up (h : PairAt w q s) (f : Bool) (hK : ∀ p l c w', OwnL pLay w' w.heap.size 104 p l c ((upS s f).map (ramB q)) → Keep (fun _ => False) w w' → R (.slice p l c) w') : CallV Tryz.prog 159 #[.pointer (some ⟨q.p, 0, none⟩), .int .i64 (sideN f)] w R := by
  apply C_mirror_Pair_Up
  unfold F_mirror_Pair_Up
  refine pr_side _ ?_
  refine OpB_bool.2 ?_
  have e : (!(decide (sideN f = 0) || decide (sideN f = 1))) = false := by cases f <;> rfl
  rw [e]
  refine (Cb_false (p := _)).2 ?_
  have e1 : IntKind.wrap .i64 (1 - sideN f) = sideN (!f) := by cases f <;> decide +kernel
  rw [e1]
  refine ⟨_, _, bsl_i2 _ _ w, OpS_slice.2 ?_⟩
  have k0 : Keep (fun _ => False) w (w.alloc (.cells #[.int .i64 (sideN f), .int .i64 (sideN !f)] 3)) := Keep.new _ _ _
  have hrow : Has (w.alloc (.cells #[.int .i64 (sideN f), .int .i64 (sideN !f)] 3)) w.heap.size (.cells #[.int .i64 (sideN f), .int .i64 (sideN !f)] 3 (0, 0)) := Has.new _ _
  have o0 : OwnL iLay _ w.heap.size 3 (some ⟨w.heap.size, 0, none⟩) 2 2 [sideN f, sideN !f] := OwnL.mk (xs := [sideN f, sideN !f]) (Nat.le_refl _) hrow (by simp [maxLen]) rfl
  generalize w.alloc (.cells #[.int .i64 (sideN f), .int .i64 (sideN !f)] 3) = w0 at *
  have hp := h.cells
  generalize hn : w.heap.size = n at *
  refine LoopC_of (σ := (Option Addr × Nat × Nat) × Int × Unit) (fun st w' => ∃ k : Nat, st.2.1 = (k : Int) ∧ k ≤ 2 ∧ OwnL pLay w' (n + 1) 104 st.1.1 st.1.2.1 st.1.2.2 ((([f, !f].take k).filter fun g => cond g s.ub s.ua).map (ramB q)) ∧ Keep (fun k => n + 1 ≤ k) w0 w')
    (fun st _ => (2 - st.2.1).toNat) ⟨0, rfl, by omega, OwnL.nil, Keep.refl _ _⟩ ?_
  rintro _ ⟨⟨p1, l1, c1⟩, i1, u⟩ w1 ⟨k, hi, hk, o1, k1⟩
  simp only at hi o1 ⊢
  subst hi
  have hsz0 : n + 1 ≤ w0.heap.size := hrow.lt
  have hsz1 : n + 1 ≤ w1.heap.size := Nat.le_trans hsz0 k1.size
  have hp1 := k1.has (k0.has hp (by simp)) (by have := hp.lt; omega)
  have ow1 := o0.keep k1 fun k hk => by cases hk; omega
  have kw : Keep (fun _ => False) w w1 := k0.trans' k1 fun i hi hh => by rw [hn] at hi; omega
  refine Cb_of (fun hc => ?_) (fun hc => ?_)
  · have hc : k < 2 := by simp only [decide_eq_true_eq] at hc; omega
    obtain ⟨g, hg⟩ : ∃ g, [f, !f][k]? = some g := ⟨_, List.getElem?_eq_getElem (by simpa using hc)⟩
    have hgi : [sideN f, sideN !f][k]? = some (sideN g) := by
      match k, hc, hg with
      | 0, _, hg => cases hg; rfl
      | 1, _, hg => cases hg; rfl
    have hl1 := o1.length
    have hlen : ((([f, !f].take k).filter fun g => cond g s.ub s.ua).map (ramB q)).length ≤ 2 := by
      rw [List.length_map]
      exact Nat.le_trans (List.length_filter_le _ _) (by rw [List.length_take]; simp; omega)
    have ek : IntKind.wrap .i64 ((k : Int) + 1) = ((k + 1 : Nat) : Int) := by rw [wrapI (by omega) (by omega)]; omega
    refine ow1.ld0 (i := (k : Int)) (n := 1) (x := sideN g) (v := .int .i64 (sideN g)) rfl (by omega) (by simpa using hgi) rfl ?_
    refine OpI_int.2 ?_
    have hb2 : 0 ≤ sideN g ∧ sideN g < 2 := by cases g <;> decide
    refine ⟨hb2, ?_⟩
    refine LdV_has (v := .bool (cond g s.ub s.ua)) hp1 (by cases g <;> rfl) ?_
    refine OpB_bool.2 ?_
    have etk : ([f, !f].take (k + 1)) = [f, !f].take k ++ [g] := by rw [List.take_add_one, hg]; rfl
    have hmu : ((2 : Int) - IntKind.wrap .i64 ((k : Int) + 1)).toNat < ((2 : Int) - (k : Int)).toNat := by rw [ek]; omega
    cases hu : cond g s.ub s.ua
    · refine (Cb_false (p := _)).2 ?_
      refine ⟨_, hmu, ⟨k + 1, ek, by omega, ?_, k1⟩, rfl⟩
      rw [etk, List.filter_append, List.filter_cons_of_neg (by simp [hu]), List.filter_nil, List.append_nil]
      exact o1
    · refine (Cb_true (q := _)).2 ?_
      refine ⟨hb2, ?_⟩
      refine LdV_has (v := .pointer (some ⟨ramB q g, 0, none⟩)) hp1 (by cases g <;> rfl) ?_
      refine OpN_some.2 ?_
      refine ⟨_, _, bsl_p1 _ w1, OpS_slice.2 ?_⟩
      have k2 : Keep (fun _ => False) w1 (w1.alloc (.cells #[.pointer (some ⟨ramB q g, 0, none⟩)] 104)) := Keep.new _ _ _
      have h2 : Has (w1.alloc (.cells #[.pointer (some ⟨ramB q g, 0, none⟩)] 104)) w1.heap.size (.cells #[.pointer (some ⟨ramB q g, 0, none⟩)] 104 (0, 0)) := Has.new _ _
      generalize w1.alloc (.cells #[.pointer (some ⟨ramB q g, 0, none⟩)] 104) = w2 at *
      obtain ⟨p5, c5, w5, hr, o5, k5, _⟩ := run_appendF1 pLayT (o1.keep k2 (by simp)) (y := ramB q g) h2 rfl (ty := 109) (by omega) (by simp only [maxLen]; omega) (by have := k2.size; omega) (c2 := 1)
      refine ⟨_, _, hr, OpS_slice.2 ?_⟩
      refine ⟨_, hmu, ⟨k + 1, ek, by omega, ?_, (k1.trans (k2.mono (by simp))).trans (k5.mono fun k hk => (o1.lt hk).1)⟩, rfl⟩
      rw [etk, List.filter_append, List.filter_cons_of_pos (by simp [hu]), List.filter_nil, List.map_append]
      exact o5
  · have hc : k = 2 := by
      simp only [decide_eq_false_iff_not] at hc
      omega
    subst hc
    refine Ret_nil.2 (hK p1 l1 c1 w1 (o1.rebase (by omega)) kw)

/-! ### a record to each -/
theorem eachS_len {sz : Int} {x : Rec} : ∀ {fs : List Bool} {s : PS}, True := trivial
theorem pr_each (h : PairAt w q s) (f : Bool) {x : Rec} (hx : recGood x = true) (hK : ∀ w', PairAt w' q (eachP q.sz x f s).2 → Keep (PFoot q w) w w' → R (.int .i64 (eachP q.sz x f s).1) w') : CallV Tryz.prog 222 #[.pointer (some ⟨q.p, 0, none⟩), .int .i64 (sideN f), .agg (recV x)] w R := by
  apply C_mirror_Pair_each
  unfold F_mirror_Pair_each
  refine alc_fresh fun w1 hb1 k1 z1 => ?_
  have h1 := h.keep k1
  refine pr_Up h1 f fun p l c w2 o2 k2 => ?_
  refine OpS_slice.2 ?_
  have h2 := h1.keep k2
  have k02 := k1.trans k2
  have hb2 := k2.has hb1 (by simp)
  have hl := o2.length
  rw [List.length_map] at hl
  unfold eachP at hK
  generalize upS s f = fs at *
  refine LoopC_of (σ := Int × Unit) (fun st w' => ∃ (k : Nat) (s' : PS), st.1 = (k : Int) ∧ k ≤ l ∧ PairAt w' q s' ∧ eachS q.sz x (fs.drop k) s' = eachS q.sz x fs s ∧ Keep (PFoot q w) w w' ∧ OwnL pLay w' w1.heap.size 104 p l c (fs.map (ramB q)) ∧ Has w' w.heap.size (.cells (recV x) 246 (0, 0)))
    (fun st _ => (l - st.1).toNat) ⟨0, s, rfl, by omega, h2, rfl, PFoot.none k02, o2, hb2⟩ ?_
  rintro _ ⟨i, u⟩ w3 ⟨k, s', hi, hk, h3, he, k3, o3, hb3⟩
  simp only at hi ⊢
  subst hi
  refine Cb_of (fun hc => ?_) (fun hc => ?_)
  · have hc : k < l := by simpa using hc
    obtain ⟨g, hg⟩ : ∃ g, fs[k]? = some g := ⟨_, List.getElem?_eq_getElem (by omega)⟩
    refine o3.ld0 (i := (k : Int)) (n := 1) (x := ramB q g) (v := .pointer (some ⟨ramB q g, 0, none⟩)) rfl (by omega) (by simp [hg]) rfl ?_
    refine OpN_some.2 ?_
    refine LdA_all hb3 rfl ?_
    refine pr_app h3 (f := g) hx fun w4 h4 k4 => ?_
    refine OpI_int.2 ?_
    have ed : fs.drop k = g :: fs.drop (k + 1) := by
      rw [List.drop_eq_getElem_cons (by omega)]
      congr 1
      have := List.getElem?_eq_getElem (l := fs) (i := k) (by omega)
      rw [hg] at this
      exact (Option.some.inj this).symm
    rw [ed] at he
    have hst : eachS q.sz x (g :: fs.drop (k + 1)) s' = if (app1 q.sz x g s').1 ≠ 0 then app1 q.sz x g s' else eachS q.sz x (fs.drop (k + 1)) (app1 q.sz x g s').2 := rfl
    rw [hst] at he
    have k34 := PFoot.trans k3 k4
    refine Cb_of (fun hz => ?_) (fun hz => ?_)
    · have hz : (app1 q.sz x g s').1 ≠ 0 := by simpa using hz
      rw [if_pos hz] at he
      rw [← he] at hK
      exact Ret_nil.2 (hK w4 h4 k34)
    · have hz : (app1 q.sz x g s').1 = 0 := by simpa using hz
      rw [if_neg (by simp [hz])] at he
      have ek : IntKind.wrap .i64 ((k : Int) + 1) = ((k + 1 : Nat) : Int) := by
        have : l ≤ maxLen := Nat.le_trans o3.cap.1 o3.cap.2
        simp only [maxLen] at this
        rw [wrapI (by omega) (by omega)]; omega
      refine ⟨_, by show ((l : Int) - IntKind.wrap .i64 ((k : Int) + 1)).toNat < ((l : Int) - (k : Int)).toNat; rw [ek]; omega, ⟨k + 1, _, ek, by omega, h4, he, k34, ?_, PFoot.has k4 hb3 (by decide) h3 (by decide) (by decide) (by decide)⟩, rfl⟩
      refine o3.keep k4 fun k' hk' => ?_
      rcases Own.cases o3 with ⟨h0, _⟩ | ⟨b', cur, h0, _, hg', _⟩
      · rw [h0] at hk'; cases hk'
      · rw [h0] at hk'; cases hk'
        intro hf
        have := PFoot.has (w' := w3.upd k' (.cells #[] 0 (0, 0))) (Keep.mono (Keep.one w3 k' (.cells #[] 0 (0, 0))) fun _ e => e ▸ hf) hg' (by decide) h3 (by decide) (by decide) (by decide)
        have h5 : Has (w3.upd k' (.cells #[] 0 (0, 0))) k' (.cells #[] 0 (0, 0)) := hg'.upd_same _
        have h6 := this.inj h5
        simp only [Obj.cells.injEq] at h6
        exact absurd h6.2.1 (by decide)
  · have hc : k = l := by
      have : ¬ ((k : Int) < (l : Int)) := by simpa using hc
      omega
    subst hc
    have : fs.drop k = [] := List.drop_of_length_le (by omega)
    rw [this] at he
    have he : (0, s') = eachS q.sz x fs s := he
    rw [← he] at hK
    exact Ret_nil.2 (hK w3 h3 k3)
end calls
end Go.Proofs

/-
  The pair: the equality of two pointers.
-/
namespace Go.Proofs
open Go Go.Ev
set_option linter.unusedSimpArgs false
set_option linter.unusedVariables false
set_option maxRecDepth 100000

theorem equalIn_ptr {P : Program} (d : Nat) {t e : TypeId} {j : TypeInfo} {a b : Nat} {ca cb : Array Value} {ta tb : TypeId} {w : World} (hp : P.underlying t = some (.pointer e)) (hte : P.info? e = some j) (hsz : j.size ≠ 0) (hne : a ≠ b) (ha : Has w a (.cells ca ta (0, 0))) (hb : Has w b (.cells cb tb (0, 0))) :
    (Op.equalIn (d + 1) t (.pointer (some ⟨a, 0, none⟩)) (.pointer (some ⟨b, 0, none⟩))).run P w = .ok false w := by
  have hs := run_sameAddr_other (P := P) w (a := ⟨a, 0, none⟩) (b := ⟨b, 0, none⟩) (fun e => by injection e with e; exact hne e) ha hb
  simp [Op.equalIn, run_underlying hp, typeInfo, sizeOf, hte, hsz, hs]
theorem eql_ptr_gen {P : Program} {t e : TypeId} {j : TypeInfo} {a b : Nat} {ca cb : Array Value} {ta tb : TypeId} {w : World} (hp : P.underlying t = some (.pointer e)) (hte : P.info? e = some j) (hsz : j.size ≠ 0) (hne : a ≠ b) (ha : Has w a (.cells ca ta (0, 0))) (hb : Has w b (.cells cb tb (0, 0))) :
    (binOp .eql t (.pointer (some ⟨a, 0, none⟩)) (.pointer (some ⟨b, 0, none⟩))).run P w = .ok (.bool false) w := by
  have := equalIn_ptr 9999 hp hte hsz hne ha hb
  simp only [binOp]
  simp [Op.equal, Op.maxDepth, this]
theorem eql_ptr {a b : Nat} {ca cb : Array Value} {ta tb : TypeId} {w : World} (hne : a ≠ b) (ha : Has w a (.cells ca ta (0, 0))) (hb : Has w b (.cells cb tb (0, 0))) :
    (binOp .eql 104 (.pointer (some ⟨a, 0, none⟩)) (.pointer (some ⟨b, 0, none⟩))).run Tryz.prog w = .ok (.bool false) w := by
  have hm : (Tryz.prog.info? 214).map (·.size) = some 3 := by kernel_rfl
  cases hj : Tryz.prog.info? 214 with
  | none => rw [hj] at hm; cases hm
  | some j =>
    rw [hj] at hm
    have hz : j.size = 3 := Option.some.inj hm
    exact eql_ptr_gen (by kernel_rfl) hj (by rw [hz]; decide) hne ha hb
theorem EqB_ptr {a b : Nat} {ca cb : Array Value} {ta tb : TypeId} {w : World} {x y : Operand} {K : Bool → Prop} (hne : a ≠ b) (ha : Has w a (.cells ca ta (0, 0))) (hb : Has w b (.cells cb tb (0, 0))) (hK : K false) :
    EqB Tryz.prog .eql 104 x y (.pointer (some ⟨a, 0, none⟩)) (.pointer (some ⟨b, 0, none⟩)) (At w) K := by
  refine ⟨false, fun w' hw => ?_, hK⟩
  obtain ⟨d, rfl⟩ := hw
  have hg : Tryz.prog.eqGuardType Tryz.prog.depth 104 = false := by kernel_rfl
  have := eql_ptr (w := w.dr d) hne ha hb
  simp only [eqGuard, Sem.run_bind, run_program, hg, Bool.not_false, if_true, Result.andThen_ok, this]
  try simp [Sem.run_bind, Sem.run_pure, run_program, hg, this]
end Go.Proofs

/-
  THE PAIR: New, Take, Get, Full, Put.
-/
namespace Go.Proofs
open Go Go.Ev
set_option linter.unusedSimpArgs false
set_option linter.unusedVariables false
set_option maxRecDepth 100000

/-- what Put answers (the version, the error), and the pair behind it -/
def putP (room sz : Int) (s : PS) (f : Bool) (lba : Int) (d : Sec) : (Int × Int) × PS :=
  if lba < 0 ∨ 2147483647 < lba then ((0, 2), s)
  else if (cond f s.ub s.ua) = false then ((0, 13), s)
  else if mlook s.es lba = none ∧ room ≤ (s.es.length : Int) then ((0, 9), s)
  else
    let v := IntKind.wrap .u64 (s.last + 1)
    let r := eachP sz ⟨1, v, lba, d⟩ f { s with last := v }
    if r.1 ≠ 0 then ((0, r.1), r.2) else ((v, 0), { r.2 with es := if putE room s.es lba v = 0 then ins s.es lba (d, v) else s.es })
theorem app1_same {sz : Int} {x : Rec} {f : Bool} {s : PS} : (app1 sz x f s).2.es = s.es ∧ (app1 sz x f s).2.last = s.last ∧ (app1 sz x f s).2.epoch = s.epoch ∧ (app1 sz x f s).2.ua = s.ua ∧ (app1 sz x f s).2.ub = s.ub := by
  cases f <;> exact ⟨rfl, rfl, rfl, rfl, rfl⟩
theorem eachS_same {sz : Int} {x : Rec} : ∀ (fs : List Bool) (s : PS), (eachS sz x fs s).2.es = s.es ∧ (eachS sz x fs s).2.last = s.last ∧ (eachS sz x fs s).2.epoch = s.epoch ∧ (eachS sz x fs s).2.ua = s.ua ∧ (eachS sz x fs s).2.ub = s.ub
  | [], _ => ⟨rfl, rfl, rfl, rfl, rfl⟩
  | f :: fs, s => by
    have e : eachS sz x (f :: fs) s = if (app1 sz x f s).1 ≠ 0 then app1 sz x f s else eachS sz x fs (app1 sz x f s).2 := rfl
    obtain ⟨a1, a2, a3, a4, a5⟩ := app1_same (sz := sz) (x := x) (f := f) (s := s)
    rw [e]
    split
    · exact ⟨a1, a2, a3, a4, a5⟩
    · obtain ⟨b1, b2, b3, b4, b5⟩ := eachS_same fs (app1 sz x f s).2 (sz := sz) (x := x)
      exact ⟨b1.trans a1, b2.trans a2, b3.trans a3, b4.trans a4, b5.trans a5⟩
theorem eachP_same {sz : Int} {x : Rec} {f : Bool} (s : PS) : (eachP sz x f s).2.es = s.es ∧ (eachP sz x f s).2.last = s.last ∧ (eachP sz x f s).2.epoch = s.epoch ∧ (eachP sz x f s).2.ua = s.ua ∧ (eachP sz x f s).2.ub = s.ub := eachS_same _ _
section calls
variable {w : World} {q : PB} {s : PS} {R : Value → World → Prop}
theorem PairAt.setC (h : PairAt w q s) {e' : List (Int × Ent)} {la ep : Int} {ua ub : Bool} (he : e' = s.es) : PairAt (w.upd q.p (.cells (pairC q ⟨e', la, ep, ua, ub, s.pw, s.xa, s.xb⟩) 153 (0, 0))) q ⟨e', la, ep, ua, ub, s.pw, s.xa, s.xb⟩ := by
  subst he
  obtain ⟨pa, lx, ca, pb, lb, cb, ha, hb, hne⟩ := h.rams
  have k := Keep.one w q.p (.cells (pairC q ⟨s.es, la, ep, ua, ub, s.pw, s.xa, s.xb⟩) 153 (0, 0))
  have inj : ∀ {k : Nat} {cs : Array Value} {t : TypeId} {f : Nat × Nat}, Has w k (.cells cs t f) → t ≠ 153 → ¬ k = q.p := by
    intro k cs t f h1 ht e
    subst e
    have := h1.inj h.cells
    simp only [Obj.cells.injEq] at this
    exact ht this.2.1
  have hmap : ¬ q.mp = q.p := by
    obtain ⟨_, arr, clk, hm, _⟩ := h.cache
    intro e
    rw [e] at hm
    cases hm.inj h.cells
  exact ⟨h.cells.upd_same _, h.cache.keep k (inj h.cache.1 (by decide)) hmap, k.has h.main (inj (show Has w _ _ from h.main) (by decide)),
    ⟨pa, lx, ca, pb, lb, cb, ha.keep k (inj ha.cells (by decide)) (fun k' hk e => by subst e; exact bytes_ne ha.row h.cells (by decide) hk), hb.keep k (inj hb.cells (by decide)) (fun k' hk e => by subst e; exact bytes_ne hb.row h.cells (by decide) hk), hne⟩, h.ne, h.fit, h.form, h.low⟩
theorem pr_Take (h : PairAt w q s) (hK : ∀ w', PairAt w' q { s with last := IntKind.wrap .u64 (s.last + 1) } → Keep (PFoot q w) w w' → R (.int .u64 (IntKind.wrap .u64 (s.last + 1))) w') : CallV Tryz.prog 158 #[.pointer (some ⟨q.p, 0, none⟩)] w R := by
  apply C_mirror_Pair_Take
  unfold F_mirror_Pair_Take
  refine LdV_has (v := .int .u64 s.last) h.cells rfl ?_
  refine OpI_int.2 ?_
  refine StV_of h.cells (by show 6 < 7; decide) rfl ?_
  have h2 := h.setC (e' := s.es) (la := IntKind.wrap .u64 (s.last + 1)) (ep := s.epoch) (ua := s.ua) (ub := s.ub) rfl
  have k2 : Keep (PFoot q w) w (w.upd q.p (.cells (pairC q ⟨s.es, IntKind.wrap .u64 (s.last + 1), s.epoch, s.ua, s.ub, s.pw, s.xa, s.xb⟩) 153 (0, 0))) := (Keep.one w q.p _).mono fun _ e => Or.inl e
  refine LdV_has (v := .int .u64 (IntKind.wrap .u64 (s.last + 1))) h2.cells rfl ?_
  exact OpI_int.2 (Ret_nil.2 (hK _ h2 k2))
theorem pr_Full (h : PairAt w q s) (hK : ∀ d, R (.bool (decide (q.room ≤ (s.es.length : Int)))) (w.dr d)) : CallV Tryz.prog 155 #[.pointer (some ⟨q.p, 0, none⟩)] w R := by
  apply C_mirror_Pair_Full
  unfold F_mirror_Pair_Full
  refine LdV_has (v := .pointer (some ⟨q.c, 0, none⟩)) h.cells rfl ?_
  refine OpN_some.2 ?_
  exact cache_Full h.cache fun d => OpB_bool.2 (Ret_nil.2 (hK d))
def getV (es : List (Int × Ent)) (lba : Int) : Sec × Int × Int := match mlook es lba with
  | some e => (e.1, e.2, 0)
  | none => (sec [], 0, 10)
theorem cache_Get' {c m : Nat} {room : Int} {es : List (Int × Ent)} {lba : Int} {w : World} {R : Value → World → Prop} (h : CacheAt w c m room es)
    (hK : ∀ w', Keep (fun _ => False) w w' → R (.tuple #[.agg (secV (getV es lba).1), .int .u64 (getV es lba).2.1, .int .i64 (getV es lba).2.2]) w') :
    CallV Tryz.prog 225 #[.pointer (some ⟨c, 0, none⟩), .int .i64 lba] w R := by
  refine cache_Get h fun w2 k2 => ?_
  have := hK w2 k2
  unfold getV at this
  cases hl : mlook es lba <;> simp only [hl] at this ⊢ <;> exact this
theorem pr_Get (h : PairAt w q s) {lba : Int} (hK : ∀ w', Keep (fun _ => False) w w' → R (.tuple #[.agg (secV (getV s.es lba).1), .int .u64 (getV s.es lba).2.1, .int .i64 (getV s.es lba).2.2]) w') : CallV Tryz.prog 154 #[.pointer (some ⟨q.p, 0, none⟩), .int .i64 lba] w R := by
  apply C_mirror_Pair_Get
  unfold F_mirror_Pair_Get
  refine alc_fresh fun w1 hb1 k1 z1 => ?_
  have h1 := h.keep k1
  refine LdV_has (v := .pointer (some ⟨q.c, 0, none⟩)) h1.cells rfl ?_
  refine OpN_some.2 ?_
  refine cache_Get' h1.cache fun w2 k2 => ?_
  refine T3_mk.2 (OpA_agg.2 ⟨rfl, OpI_int.2 (OpI_int.2 ?_)⟩)
  have hb2 := k2.has hb1 (by simp)
  refine StA_all hb2 rfl (by rw [zc_sec]; rfl) (one_secV _) ?_
  refine LdA_all (hb2.upd_same _) rfl ?_
  refine Ret_nil.2 (hK _ ((k1.trans k2).upd (by omega) _))
theorem pr_New {base m a b : Nat} {room sz : Int} {pw : Pow} {xa xb : List Int} (hm : MaAt w m pw) (hr : ∃ pa la ca pb lb cb, RaAt w base m a sz pa la ca xa ∧ RaAt w base m b sz pb lb cb xb ∧ ∀ k, pa = some ⟨k, 0, none⟩ → ¬ pb = some ⟨k, 0, none⟩)
    (hne : a ≠ b) (hfit : (xa.length : Int) ≤ sz ∧ (xb.length : Int) ≤ sz) (hform : 37 ≤ sz ∧ sz ≤ 65536) (h1 : 1 ≤ room) (h2 : room ≤ 64) (hbase : base ≤ w.heap.size)
    (hK : ∀ p c mp w', PairAt w' ⟨p, c, mp, m, a, b, base, room, sz⟩ ⟨[], 0, 0, true, true, pw, xa, xb⟩ → Keep (fun _ => False) w w' → w.heap.size ≤ p → w.heap.size ≤ mp → R (.tuple #[.pointer (some ⟨p, 0, none⟩), .int .i64 0]) w') :
    CallV Tryz.prog 73 #[.pointer (some ⟨a, 0, none⟩), .pointer (some ⟨b, 0, none⟩), .int .i64 room] w R := by
  apply C_mirror_New
  unfold F_mirror_New
  apply C_mirror_Resume
  unfold F_mirror_Resume
  refine cache_New h1 h2 fun c mp w1 hc k1 hcb hmb => ?_
  refine T2_mk.2 ?_
  refine Or.inr ⟨c, 0, rfl, ?_⟩
  refine OpI_int.2 ⟨rfl, rfl, ?_⟩
  obtain ⟨pa, la, ca, pb, lb, cb, ha, hb, hpp⟩ := hr
  refine EqB_ptr hne (k1.has ha.cells (by simp)) (k1.has hb.cells (by simp)) ?_
  refine ⟨rfl, rfl, ?_⟩
  refine (Cb_false (p := _)).2 ?_
  refine ⟨_, _, run_makeMap, ?_⟩
  refine OpM_map.2 ?_
  have k2 : Keep (fun _ => False) w1 (w1.alloc (.map #[] 0)) := Keep.new _ _ _
  generalize w1.alloc (.map #[] 0) = w2 at *
  refine LoopC_of (σ := Int × Unit) (fun st w' => st.1 = 0 ∧ w' = w2) (fun _ _ => 0) ⟨rfl, rfl⟩ ?_
  rintro _ ⟨i, u⟩ w3 ⟨hi, hw⟩
  simp only at hi ⊢
  subst hi
  rw [hw]
  clear hw
  refine (Cb_false (p := _)).2 ?_
  have e0 : decide (((0 : Nat) : Int) > room) = false := decide_eq_false (by omega)
  rw [e0]
  refine (Cb_false (p := _)).2 ?_
  refine LoopC_of (σ := Int × Unit) (fun st w' => st.1 = 0 ∧ w' = w2) (fun _ _ => 0) ⟨rfl, rfl⟩ ?_
  rintro _ ⟨i, u⟩ w3 ⟨hi, hw⟩
  simp only at hi ⊢
  subst hi
  rw [hw]
  clear hw
  refine (Cb_false (p := _)).2 ?_
  refine DoQ_of (v := .agg #[.pointer (some ⟨a, 0, none⟩), .pointer (some ⟨b, 0, none⟩)]) (fun d => run_build _ _ _ _ (by kernel_rfl)) ?_
  refine OpA_agg.2 ⟨rfl, ?_⟩
  refine DoQ_of (v := .agg #[.bool true, .bool true]) (fun d => run_build _ _ _ _ (by kernel_rfl)) ?_
  refine OpA_agg.2 ⟨rfl, ?_⟩
  refine DoQ_of (v := .agg (pairC ⟨0, c, mp, m, a, b, base, room, sz⟩ ⟨[], 0, 0, true, true, pw, xa, xb⟩)) (fun d => run_build _ _ _ _ (by kernel_rfl)) ?_
  refine OpA_agg.2 ⟨rfl, ?_⟩
  refine alc_fresh fun w3 hb3 k3 z3 => ?_
  refine Ret_nil.2 ?_
  refine T2_mk.2 ?_
  refine Or.inr ⟨_, 0, rfl, ?_⟩
  refine OpI_int.2 (Ret_nil.2 ?_)
  have k02 := k1.trans k2
  have k03 := k02.trans k3
  refine hK _ c mp w3 ⟨hb3, (hc.keep k2 (by simp) (by simp)).keep k3 (by simp) (by simp), k03.has hm (by simp), ⟨pa, la, ca, pb, lb, cb, ha.keep k03 (by simp) (by simp), hb.keep k03 (by simp) (by simp), hpp⟩, hne, hfit, hform, ?_⟩ k03 ?_ hmb
  · show base ≤ w2.heap.size
    have := k02.size
    omega
  · exact k02.size

/-! ### Put -/
def putT (p b : Nat) (from_ lba : Int) (w : World) (R : Value → World → Prop) : Prop :=
  CallV Tryz.prog 158 #[.pointer (some ⟨p, 0, none⟩)] w fun v7 w => OpI .u64 v7 fun n2 => LdA 16 b 0 (At w) fun cs1 => DoQ Tryz.prog (Instr.build 246 #[(0, .int .i64 1), (1, .int .u64 n2), (2, .int .i64 lba), (3, .agg cs1)]) (At w) fun v8 =>
  OpA 19 v8 fun cs2 => CallV Tryz.prog 222 #[.pointer (some ⟨p, 0, none⟩), .int .i64 from_, .agg cs2] w fun v9 w => OpI .i64 v9 fun n3 => Cb (n3 != 0) (Ret [] (R (.tuple
  #[.int .u64 0, .int .i64 n3]) w)) (HeldR w fun S w => LdV p 0 (At w) fun v10 => OpN v10 fun b2 o => LdA 16 b 0 (At w) fun cs3 => CallV Tryz.prog 212 #[.pointer (some ⟨b2, o,
  none⟩), .int .i64 lba, .agg cs3, .int .u64 n2] w fun v11 w => OpI .i64 v11 fun n4 => Hld (S w) (Ret [] (R (.tuple #[.int .u64 n2, .int .i64 0]) w)))
theorem bld_rcd (k v l : Int) (f : Sec) (w : World) : (Instr.build 246 #[(0, .int .i64 k), (1, .int .u64 v), (2, .int .i64 l), (3, .agg (secV f))]).run Tryz.prog w = .ok (.agg (recV ⟨k, v, l, f⟩)) w := run_build _ _ _ _ (by kernel_rfl)
theorem PFoot.sec {w' : World} (k : Keep (PFoot q w) w w') (h : PairAt w q s) {b : Nat} {cs : Array Value} (hb : Has w b (.cells cs 37 (0, 0))) : Has w' b (.cells cs 37 (0, 0)) :=
  PFoot.has k hb (by decide) h (by decide) (by decide) (by decide)
theorem pr_putT (h : PairAt w q s) {f : Bool} {lba : Int} {d : Sec} {b : Nat} (hb : Has w b (.cells (secV d) 37 (0, 0))) (h1 : ¬ (lba < 0 ∨ 2147483647 < lba)) (h2 : (cond f s.ub s.ua) = true) (h3 : ¬ (mlook s.es lba = none ∧ q.room ≤ (s.es.length : Int)))
    (hK : ∀ w', PairAt w' q (putP q.room q.sz s f lba d).2 → Keep (PFoot q w) w w' → R (.tuple #[.int .u64 (putP q.room q.sz s f lba d).1.1, .int .i64 (putP q.room q.sz s f lba d).1.2]) w') : putT q.p b (sideN f) lba w R := by
  unfold putT
  unfold putP at hK
  rw [if_neg h1, if_neg (by rw [h2]; simp), if_neg h3] at hK
  refine pr_Take h fun w1 p1 k1 => ?_
  refine OpI_int.2 ?_
  generalize hv : IntKind.wrap .u64 (s.last + 1) = v at *
  have hb1 := PFoot.sec k1 h hb
  refine LdA_all hb1 rfl ?_
  refine DoQ_of (fun dd => bld_rcd _ _ _ _ _) ?_
  refine OpA_agg.2 ⟨rfl, ?_⟩
  have hg : recGood ⟨1, v, lba, d⟩ = true := by
    unfold recGood
    simp only [Bool.and_eq_true, decide_eq_true_eq]
    omega
  refine pr_each p1 f hg fun w2 p2 k2 => ?_
  refine OpI_int.2 ?_
  have k02 := PFoot.trans k1 k2
  simp only at hK
  obtain ⟨e1, e2, e3, e4, e5⟩ := eachP_same (sz := q.sz) (x := ⟨1, v, lba, d⟩) (f := f) { s with last := v }
  generalize hr : eachP q.sz ⟨1, v, lba, d⟩ f { s with last := v } = r at *
  refine Cb_of (fun hc => ?_) (fun hc => ?_)
  · have hc : r.1 ≠ 0 := by simpa using hc
    rw [if_pos hc] at hK
    exact Ret_nil.2 (hK w2 p2 k02)
  · have hc : r.1 = 0 := by simpa using hc
    rw [if_neg (by simp [hc])] at hK
    intro dd
    refine ⟨fun _ => True, trivial, ?_⟩
    have kd := Keep.drew (fun _ => False) w2 dd
    have p3 := p2.keep kd
    refine LdV_has (v := .pointer (some ⟨q.c, 0, none⟩)) p3.cells rfl ?_
    refine OpN_some.2 ?_
    refine LdA_all ((PFoot.sec k2 p1 hb1).dr dd) rfl ?_
    have hca : CacheAt (w2.dr dd) q.c q.mp q.room s.es := by
      have := p3.cache
      rw [e1] at this
      exact this
    refine cache_Put hca fun w4 k4 hc4 => ?_
    refine OpI_int.2 ⟨trivial, Ret_nil.2 ?_⟩
    refine hK w4 ?_ (PFoot.trans k02 ((PFoot.none kd).trans' k4 fun i hi e => Or.inr (Or.inl e)))
    obtain ⟨pa, la, ca, pb, lb, cb, ha, hb', hne⟩ := p3.rams
    have nm : ∀ {k : Nat} {cs : Array Value} {t : TypeId} {f : Nat × Nat}, Has (w2.dr dd) k (.cells cs t f) → ¬ k = q.mp := by
      intro k cs t f h1 e
      obtain ⟨_, arr, clk, hm, _⟩ := hca
      subst e
      cases h1.inj hm
    have rw_ : ∀ {p : Option Addr} {l c : Nat} {bs : List Int}, OwnL byLay (w2.dr dd) q.base 5 p l c bs → ∀ k, p = some ⟨k, 0, none⟩ → ¬ k = q.mp := by
      intro p l c bs ho k hk
      rcases Own.cases ho with ⟨h0, _⟩ | ⟨b', cur, h0, hb', hg, _⟩
      · rw [h0] at hk; cases hk
      · rw [h0] at hk; cases hk; exact nm hg
    exact ⟨k4.has p3.cells (nm p3.cells), hc4, k4.has p3.main (nm (show Has (w2.dr dd) _ _ from p3.main)), ⟨pa, la, ca, pb, lb, cb, ha.keep k4 (nm ha.cells) (rw_ ha.row), hb'.keep k4 (nm hb'.cells) (rw_ hb'.row), hne⟩, p3.ne, p3.fit, p3.form, p3.low⟩
theorem pr_Put (h : PairAt w q s) (f : Bool) {lba : Int} {d : Sec}
    (hK : ∀ w', PairAt w' q (putP q.room q.sz s f lba d).2 → Keep (PFoot q w) w w' → R (.tuple #[.int .u64 (putP q.room q.sz s f lba d).1.1, .int .i64 (putP q.room q.sz s f lba d).1.2]) w') :
    CallV Tryz.prog 156 #[.pointer (some ⟨q.p, 0, none⟩), .int .i64 (sideN f), .int .i64 lba, .agg (secV d)] w R := by
  apply C_mirror_Pair_Put
  unfold F_mirror_Pair_Put
  refine alc_fresh fun w1 hb1 k1 z1 => ?_
  have p1 := h.keep k1
  refine pr_side _ ?_
  refine OpB_bool.2 ⟨rfl, rfl, rfl, rfl, ?_⟩
  have e : (decide (sideN f = 0) || decide (sideN f = 1)) = true := by cases f <;> rfl
  rw [e]
  refine Cb_of (fun hc => ?_) (fun hc => ?_)
  · have hr : lba < 0 ∨ 2147483647 < lba := by
      by_cases h1 : lba < 0
      · exact Or.inl h1
      · simp [h1] at hc; exact Or.inr hc
    unfold putP at hK
    rw [if_pos hr] at hK
    exact Ret_nil.2 (hK w1 p1 (PFoot.none k1))
  have hr : ¬ (lba < 0 ∨ 2147483647 < lba) := by
    by_cases h1 : lba < 0
    · simp [h1] at hc
    · simp [h1] at hc; omega
  have hb2 : 0 ≤ sideN f ∧ sideN f < 2 := by cases f <;> decide
  refine ⟨hb2, ?_⟩
  refine LdV_has (v := .bool (cond f s.ub s.ua)) p1.cells (by cases f <;> rfl) ?_
  refine OpB_bool.2 ?_
  refine Cb_of (fun hu => ?_) (fun hu => ?_)
  · have hu : (cond f s.ub s.ua) = false := by simpa using hu
    unfold putP at hK
    rw [if_neg hr, if_pos hu] at hK
    exact Ret_nil.2 (hK w1 p1 (PFoot.none k1))
  have hu : (cond f s.ub s.ua) = true := by simpa using hu
  refine pr_Get p1 fun w2 k2 => ?_
  refine T3_mk.2 (OpA_agg.2 ⟨rfl, OpI_int.2 (OpI_int.2 ?_)⟩)
  refine copy_of (by rw [zc_sec]; rfl) rfl (one_secV _) fun w3 hb3 k3 z3 => ?_
  have k13 := k2.trans k3
  have k03 := k1.trans k13
  have p3 := p1.keep k13
  have hbb := k13.has hb1 (by simp)
  refine Cb_of (fun hg => ?_) (fun hg => ?_)
  · have hn : mlook s.es lba = none := by
      unfold getV at hg
      cases hl : mlook s.es lba with
      | none => rfl
      | some e => rw [hl] at hg; simp at hg
    refine pr_Full p3 fun dd => ?_
    have kd := Keep.drew (fun _ => False) w3 dd
    refine OpB_bool.2 ?_
    refine Cb_of (fun hf => ?_) (fun hf => ?_)
    · have hf : q.room ≤ (s.es.length : Int) := by simpa using hf
      unfold putP at hK
      rw [if_neg hr, if_neg (by rw [hu]; simp), if_pos ⟨hn, hf⟩] at hK
      exact Ret_nil.2 (hK _ (p3.keep kd) (PFoot.none (k03.trans kd)))
    · have hf : ¬ q.room ≤ (s.es.length : Int) := by simpa using hf
      refine pr_putT (p3.keep kd) (d := d) (f := f) (hbb.dr dd) hr hu (fun hh => hf hh.2) fun w5 p5 k5 => ?_
      exact hK w5 p5 (PFoot.trans (PFoot.none (k03.trans kd)) k5)
  · have hn : mlook s.es lba ≠ none := by
      unfold getV at hg
      intro hl
      rw [hl] at hg
      simp at hg
    refine pr_putT p3 (d := d) (f := f) hbb hr hu (fun hh => hn hh.1) fun w5 p5 k5 => ?_
    exact hK w5 p5 (PFoot.trans (PFoot.none k03) k5)
end calls
end Go.Proofs
