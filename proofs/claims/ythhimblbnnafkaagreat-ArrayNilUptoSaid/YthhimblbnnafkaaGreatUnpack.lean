/-
  Unpack: the record that bytes begin with, if what is packed anew is what stands there.
-/
import Derived.Test.YthhimblbnnafkaaGreatEqBy
namespace Go.Proofs
open Go Go.Ev
set_option linter.unusedSimpArgs false
set_option linter.unusedVariables false
set_option maxRecDepth 100000

theorem wrap8 (x : Int) : 0 ≤ IntKind.wrap .u8 x ∧ IntKind.wrap .u8 x ≤ 255 := by
  simp [IntKind.wrap, IntKind.signed, IntKind.bits]
  omega
theorem by_lowB (n : Int) : ∀ i, By (lowB n i)
  | 0 => by intro x h; simp [lowB] at h
  | i + 1 => by
    intro x h
    unfold lowB at h
    rcases List.mem_cons.1 h with e | e
    · rw [e]; exact wrap8 _
    · exact by_lowB n i x e
theorem By.append {xs ys : List Int} (h : By xs) (k : By ys) : By (xs ++ ys) := fun x hx => by
  rcases List.mem_append.1 hx with e | e
  · exact h x e
  · exact k x e
theorem by_packB {r : Rec} (h : SecOk r.data) : By (packB r) := by
  unfold packB sealB bareB
  refine By.append ?_ (by_lowB _ _)
  intro x hx
  rcases List.mem_cons.1 hx with e | e
  · rw [e]; exact wrap8 _
  · refine By.append (By.append (by_lowB _ _) (by_lowB _ _)) ?_ x e
    intro y hy
    simp only [secB, List.mem_cons, List.not_mem_nil, or_false] at hy
    rcases hy with rfl | rfl | rfl | rfl | rfl | rfl | rfl | rfl | rfl | rfl | rfl | rfl | rfl | rfl | rfl | rfl <;> exact h _
def zeroR : Rec := ⟨0, 0, 0, sec []⟩
def unB (xs : List Int) : Rec := ⟨IntKind.wrap .i64 (xs.getD 0 0), readB ((xs.take 9).drop 1), IntKind.wrap .i64 (readB ((xs.take 17).drop 9)), fun k => xs.getD (17 + k.val) 0⟩
theorem un_sec {xs : List Int} (h : By xs) : SecOk (unB xs).data := by
  intro k
  show 0 ≤ xs.getD (17 + k.val) 0 ∧ xs.getD (17 + k.val) 0 ≤ 255
  by_cases hk : 17 + k.val < xs.length
  · rw [List.getD_eq_getElem?_getD, List.getElem?_eq_getElem hk]
    exact h _ (List.getElem_mem _)
  · rw [List.getD_eq_getElem?_getD, List.getElem?_eq_none (by omega)]; simp
/-- is what stands there a record? -/
def unGood (xs : List Int) : Prop := recGood (unB xs) = true ∧ packB (unB xs) = xs.take 37
theorem bld_zero (w : World) : (Instr.build 246 #[]).run Tryz.prog w = .ok (.agg (recV zeroR)) w := run_build _ _ _ _ (by kernel_rfl)
theorem zc_rc : (zc Tryz.prog 246).size = 19 := by kernel_rfl
theorem one_recV (r : Rec) : ∀ v ∈ (recV r).toList, oneV v = true := one_recL r
def UZero (b : Nat) (e : Int) (w : World) (R : Value → World → Prop) : Prop :=
  DoQ Tryz.prog (Instr.build 246 #[]) (At w) fun v8 => OpA 19 v8 fun cs5 => StA 19 b 0 cs5 w fun w => LdA 19 b 0 (At w) fun cs6 => Ret [] (R (.tuple #[.agg cs6, .int .i64 e]) w)
def URest (bp : Option Addr) (bl bc b b3 : Nat) (w : World) (R : Value → World → Prop) : Prop :=
  LdA 19 b3 0 (At w) fun cs4 => CallV Tryz.prog 230 #[.agg cs4] w fun v5 w => T2 v5 fun v6 v7 => OpS v6 fun p l3 c => OpI .i64 v7 fun n3 => Cb (n3 != 0) (UZero b 7 w R) (Slc bl bc none (some 37) none fun l4 h3 m3 => CallV Tryz.prog 253 #[.slice p l3 c, .slice (slcP 1 l4 m3 bp) (h3 - l4) (m3 - l4)] w fun v9 w => OpB v9 fun g => Cb (!g) (UZero b 7 w R) (LdA 19 b3 0 (At w) fun cs9 => StA 19 b 0 cs9 w fun w => LdA 19 b 0 (At w) fun cs10 => Ret [] (R (.tuple #[.agg cs10, .int .i64 0]) w)))
section calls
variable {w : World} {p : Option Addr} {l c : Nat} {xs : List Int} {R : Value → World → Prop}
theorem u_zero {b : Nat} {e : Int} {c0 : Array Value} (hb : Has w b (.cells c0 246 (0, 0))) (h0 : c0.size = 19) (hK : ∀ w', Keep (fun k => k = b) w w' → R (.tuple #[.agg (recV zeroR), .int .i64 e]) w') : UZero b e w R := by
  unfold UZero
  refine DoQ_of (fun d => bld_zero _) ?_
  refine OpA_agg.2 ⟨rfl, ?_⟩
  refine StA_all hb rfl h0 (one_recV _) ?_
  refine LdA_all (hb.upd_same _) rfl ?_
  exact Ret_nil.2 (hK _ (Keep.one _ _ _))
theorem Slc_hi37 {n cap : Nat} {K : Nat → Nat → Nat → Prop} (h1 : 37 ≤ cap) (hK : K 0 37 cap) : Slc n cap none (some 37) none K := by
  refine ⟨by decide, (show (0 : Int) ≤ 37 by decide), ?_, ?_, ?_⟩
  · show (37 : Int) ≤ (cap : Int); omega
  · show (cap : Int) ≤ (cap : Int); omega
  · show K (Int.toNat 0) (Int.toNat 37) (Int.toNat (cap : Int))
    rw [Int.toNat_natCast]; exact hK
theorem u_rest {r : Rec} {b b3 : Nat} {c0 : Array Value} (h : SlL byLay w p l xs) (hl : 37 ≤ l) (hlc : l ≤ c) (hby : By xs) (hsec : SecOk r.data) (hb : Has w b (.cells c0 246 (0, 0))) (h0 : c0.size = 19) (hb3 : Has w b3 (.cells (recV r) 246 (0, 0))) (hne : b ≠ b3)
    (hK : ∀ (g : Bool) w', (g = true ↔ recGood r = true ∧ packB r = xs.take 37) → Keep (fun k => k = b) w w' → R (.tuple #[.agg (recV (if g = true then r else zeroR)), .int .i64 (if g = true then 0 else 7)]) w') : URest p l c b b3 w R := by
  unfold URest
  have hlen := h.1
  refine LdA_all hb3 rfl ?_
  refine c_Pack (fun hg w1 k1 => ?_) (fun hg g' c' w1 o1 k1 => ?_)
  · refine T2_mk.2 (OpS_slice.2 (OpI_int.2 ?_))
    refine (Cb_true (q := _)).2 ?_
    refine u_zero (k1.has hb (by simp)) h0 fun w2 k2 => ?_
    exact hK false w2 (by rw [hg]; simp) ((k1.mono (by simp)).trans k2)
  · refine T2_mk.2 (OpS_slice.2 (OpI_int.2 ?_))
    refine (Cb_false (p := _)).2 ?_
    refine Slc_hi37 (by omega) ?_
    have hs := (h.keepB k1 (by simp)).sub (lo := 0) (hi := 37) (m := c) (by omega) (by omega) (by omega)
    rw [List.drop_zero] at hs
    refine b_Equal o1.sl hs (by_packB hsec) (fun x hx => hby x (List.mem_of_mem_take hx)) fun g hgg => ?_
    refine OpB_bool.2 ?_
    refine Cb_of (fun hf => ?_) (fun hf => ?_)
    · have hf : g = false := by simpa using hf
      subst hf
      refine u_zero (k1.has hb (by simp)) h0 fun w2 k2 => ?_
      refine hK false w2 ⟨fun h => (by cases h), fun h => ?_⟩ ((k1.mono (by simp)).trans k2)
      have := hgg.2 h.2
      cases this
    · have hf : g = true := by simpa using hf
      subst hf
      refine LdA_all (k1.has hb3 (by simp)) rfl ?_
      refine StA_all (k1.has hb (by simp)) rfl h0 (one_recV r) ?_
      refine LdA_all ((k1.has hb (by simp)).upd_same _) rfl ?_
      exact Ret_nil.2 (hK true _ ⟨fun _ => ⟨hg, hgg.1 rfl⟩, fun _ => rfl⟩ ((k1.mono (by simp)).trans (Keep.one _ _ _)))
theorem SlL.ldS {α : Type} {L : Lay α} {S : World → Prop} {w0 : World} {p : Option Addr} {l : Nat} {xs : List α} (h0 : S w0) (h : ∀ w', S w' → SlL L w' p l xs) {i : Int} {x : α} {n : Nat} {v : Value} (hn : L.size = n) (hi0 : 0 ≤ i) (hi : xs[i.toNat]? = some x)
    (hv : (L.row x)[0]? = some v) {K : Value → Prop} (hK : K v) : IdxS p l i n fun b o => LdV b o S K := by
  subst hn
  obtain ⟨b, o, hp, _⟩ := (h w0 h0).2 _ x hi
  have hlt := (List.getElem?_eq_some_iff.1 hi).1
  refine ⟨b, o, hp, hi0, by have := (h w0 h0).1; omega, v, fun w' hw => ?_, hK⟩
  obtain ⟨b', o', hp', hc⟩ := (h w' hw).2 _ x hi
  rw [hp] at hp'
  cases hp'
  have := hc 0 L.pos
  rw [Nat.add_zero] at this
  rw [this, hv]
theorem get_secV (f : Sec) {k : Nat} (hk : k < 16) : (secV f)[k]? = some (.int .u8 (f ⟨k, hk⟩)) := by
  match k, hk with
  | 0, _ => rfl | 1, _ => rfl | 2, _ => rfl | 3, _ => rfl | 4, _ => rfl | 5, _ => rfl | 6, _ => rfl | 7, _ => rfl
  | 8, _ => rfl | 9, _ => rfl | 10, _ => rfl | 11, _ => rfl | 12, _ => rfl | 13, _ => rfl | 14, _ => rfl | 15, _ => rfl
  | n + 16, h => exact absurd h (by omega)
/-- sixteen bytes as a sector, leaning on a class of worlds -/
theorem arr16 {S : World → Prop} {w0 : World} (h0 : S w0) (h : ∀ w', S w' → SlL byLay w' p l xs) (hl : 33 ≤ l) (hc17 : c ≠ 17) {K : Array Value → Prop} (hK : K (secV fun k => xs.getD (17 + k.val) 0)) : SlArr (slcP 1 17 c p) (33 - 17) 16 fun b2 o1 => LdA 16 b2 o1 S K := by
  obtain ⟨b, o, hp, _⟩ := (h w0 h0).cells (by omega)
  refine ⟨b, o + 17, ?_, by decide, secV fun k => xs.getD (17 + k.val) 0, rfl, fun w' hw i hi => ?_, hK⟩
  · unfold slcP
    rw [if_neg hc17, hp]; simp [add_add']
  · have h1 := h w' hw
    obtain ⟨b', o', hp', hc⟩ := h1.cells (by omega)
    rw [hp] at hp'
    cases hp'
    have hlt : 17 + i < xs.length := by have := h1.1; omega
    rw [get_secV _ hi, Nat.add_assoc]
    refine hc (17 + i) _ ?_
    rw [by_rows, List.getElem?_map, List.getElem?_eq_getElem hlt, List.getD_eq_getElem?_getD, List.getElem?_eq_getElem hlt]; rfl
theorem bld_rc (k v l : Int) (f : Sec) (w : World) : (Instr.build 246 #[(0, .int .i64 k), (1, .int .u64 v), (2, .int .i64 l), (3, .agg (secV f))]).run Tryz.prog w = .ok (.agg (recV ⟨k, v, l, f⟩)) w := run_build _ _ _ _ (by kernel_rfl)
theorem c_Unpack (h : SlL byLay w p l xs) (hl : 37 ≤ l) (hlm : l ≤ 1000000) (hlc : l ≤ c) (hby : By xs)
    (hK : ∀ (g : Bool) w', (g = true ↔ unGood xs) → Keep (fun _ => False) w w' → R (.tuple #[.agg (recV (if g = true then unB xs else zeroR)), .int .i64 (if g = true then 0 else 7)]) w') : CallV Tryz.prog 207 #[.slice p l c] w R := by
  apply C_codec_Unpack
  unfold F_codec_Unpack
  have hlen := h.1
  rw [Alc_iff]
  have hb1 : Has (w.alloc (.cells (zc Tryz.prog 246) 246)) w.heap.size (.cells (zc Tryz.prog 246) 246 (0, 0)) := Has.new _ _
  have k1 : Keep (fun _ => False) w (w.alloc (.cells (zc Tryz.prog 246) 246)) := Keep.new _ _ _
  have z1 : (w.alloc (.cells (zc Tryz.prog 246) 246)).heap.size = w.heap.size + 1 := by simp
  generalize w.alloc (.cells (zc Tryz.prog 246) 246) = w1 at *
  generalize hbn : w.heap.size = b at *
  refine Cb_of (fun hc => by simp only [decide_eq_true_eq] at hc; omega) (fun _ => ?_)
  intro d
  have k1d : Keep (fun _ => False) w (w1.dr d) := k1.dr d
  have hS : SlL byLay (w1.dr d) p l xs := h.keepB k1d (by simp)
  refine ⟨fun w' => SlL byLay w' p l xs, hS, ?_⟩
  refine SlL.ldS (L := byLay) (S := fun w' => SlL byLay w' p l xs) (w0 := w1.dr d) hS (fun w' h => h) rfl (by omega) (x := xs.getD 0 0) (by rw [show (0 : Int).toNat = 0 from rfl, List.getD_eq_getElem?_getD, List.getElem?_eq_getElem (by omega)]; rfl) (v := .int .u8 (xs.getD 0 0)) rfl ?_
  refine OpI_int.2 ?_
  have slc : ∀ {lo hi : Nat} {K : Nat → Nat → Nat → Prop}, lo ≤ hi → hi ≤ 37 → K lo hi c → Slc l c (some (lo : Int)) (some (hi : Int)) none K := by
    intro lo hi K h1 h2 hk
    refine ⟨?_, ?_, ?_, ?_, ?_⟩
    · show (0 : Int) ≤ (lo : Int); omega
    · show (lo : Int) ≤ (hi : Int); omega
    · show (hi : Int) ≤ (c : Int); omega
    · show (c : Int) ≤ (c : Int); omega
    · show K (Int.toNat (lo : Int)) (Int.toNat (hi : Int)) (Int.toNat (c : Int))
      rw [Int.toNat_natCast, Int.toNat_natCast, Int.toNat_natCast]; exact hk
  refine slc (lo := 1) (hi := 9) (by omega) (by omega) ?_
  refine slc (lo := 9) (hi := 17) (by omega) (by omega) ?_
  refine slc (lo := 17) (hi := 33) (by omega) (by omega) ?_
  refine arr16 (S := fun w' => SlL byLay w' p l xs) (w0 := w1.dr d) hS (fun w' h => h) (by omega) (by omega) ?_
  have rd1 : ∀ {w' : World} {R' : Value → World → Prop}, SlL byLay w' p l xs → R' (.int .u64 (unB xs).ver) w' → CallV Tryz.prog 252 #[.slice (slcP 1 1 c p) (9 - 1) (c - 1)] w' R' := fun h' k =>
    c_read (h'.sub (lo := 1) (hi := 9) (m := c) (by omega) (by omega) (by omega)) (by omega) k
  have rd2 : ∀ {w' : World} {R' : Value → World → Prop}, SlL byLay w' p l xs → R' (.int .u64 (readB ((xs.take 17).drop 9))) w' → CallV Tryz.prog 252 #[.slice (slcP 1 9 c p) (17 - 9) (c - 9)] w' R' := fun h' k =>
    c_read (h'.sub (lo := 9) (hi := 17) (m := c) (by omega) (by omega) (by omega)) (by omega) k
  have rest : ∀ {w' : World} {b3 : Nat}, Keep (fun _ => False) (w1.dr d) w' → Has w' b3 (.cells (recV (unB xs)) 246 (0, 0)) → b ≠ b3 → URest p l c b b3 w' R := by
    intro w' b3 k h3 hne
    refine u_rest (h.keepB (k1d.trans k) (by simp)) hl hlc hby (un_sec hby) (k.has (hb1.dr d) (by simp)) zc_rc h3 hne fun g w2 hg k2 => ?_
    refine hK g w2 hg ((k1d.trans k).trans' k2 fun k hk e => by omega)
  have fresh : ∀ {w' : World}, Keep (fun _ => False) (w1.dr d) w' → b ≠ w'.heap.size := fun k => by
    have := k.size
    have e : (w1.dr d).heap.size = b + 1 := z1
    omega
  -- a record in a block of its own
  have put : ∀ {w' : World}, Keep (fun _ => False) (w1.dr d) w' → SlL byLay w' p l xs → Alc 246 (zc Tryz.prog 246) w' fun b3 w => Hld (SlL byLay w p l xs) (StA 19 b3 0 (recV (unB xs)) w fun w => Hld (SlL byLay w p l xs) (URest p l c b b3 w R)) := by
    intro w' k hs
    rw [Alc_iff]
    have k2 : Keep (fun _ => False) (w1.dr d) (w'.alloc (.cells (zc Tryz.prog 246) 246)) := k.alloc _
    refine ⟨hs.keepB (Keep.new (fun _ => False) _ _) (by simp), ?_⟩
    refine StA_all (Has.new _ _) rfl zc_rc (one_recV _) ?_
    have k3 : Keep (fun _ => False) w' ((w'.alloc (.cells (zc Tryz.prog 246) 246)).upd w'.heap.size (.cells (recV (unB xs)) 246 (0, 0))) := (Keep.new _ _ _).upd (by omega) _
    refine ⟨hs.keepB k3 (by simp), ?_⟩
    exact rest (k.trans k3) ((Has.new _ _).upd_same _) (fresh k)
  refine ⟨?_, ?_⟩
  · refine rd1 hS ?_
    refine OpI_int.2 ⟨hS, ?_⟩
    refine ⟨?_, ?_⟩
    · refine rd2 hS ?_
      refine OpI_int.2 ⟨hS, ?_⟩
      refine ⟨_, fun w' _ => bld_rc _ _ _ _ w', OpA_agg.2 ⟨rfl, ?_⟩⟩
      exact put (Keep.refl _ _) hS
    · rw [Alc_iff]
      have hz := Has.new (w1.dr d) (.cells (zc Tryz.prog 246) 246)
      have kz : Keep (fun _ => False) (w1.dr d) ((w1.dr d).alloc (.cells (zc Tryz.prog 246) 246)) := Keep.new _ _ _
      have hs2 := hS.keepB kz (by simp)
      refine ⟨hs2, ?_⟩
      refine rd2 hs2 ?_
      refine OpI_int.2 ⟨hs2, ?_⟩
      refine DoQ_of (fun d => bld_rc _ _ _ _ _) ?_
      refine OpA_agg.2 ⟨rfl, ?_⟩
      refine StA_all hz rfl zc_rc (one_recV _) ?_
      have k3 : Keep (fun _ => False) (w1.dr d) (((w1.dr d).alloc (.cells (zc Tryz.prog 246) 246)).upd (w1.dr d).heap.size (.cells (recV (unB xs)) 246 (0, 0))) := kz.upd (by omega) _
      exact ⟨hS.keepB k3 (by simp), rest k3 (hz.upd_same _) (fresh (Keep.refl _ _))⟩
  · rw [Alc_iff]
    have hz := Has.new (w1.dr d) (.cells (zc Tryz.prog 246) 246)
    have kz : Keep (fun _ => False) (w1.dr d) ((w1.dr d).alloc (.cells (zc Tryz.prog 246) 246)) := Keep.new _ _ _
    have hs2 := hS.keepB kz (by simp)
    refine ⟨hs2, ?_⟩
    refine rd1 hs2 ?_
    refine OpI_int.2 ⟨hs2, ?_⟩
    refine rd2 hs2 ?_
    refine OpI_int.2 ⟨hs2, ?_⟩
    refine DoQ_of (fun d => bld_rc _ _ _ _ _) ?_
    refine OpA_agg.2 ⟨rfl, ?_⟩
    refine StA_all hz rfl zc_rc (one_recV _) ?_
    have k3 : Keep (fun _ => False) (w1.dr d) (((w1.dr d).alloc (.cells (zc Tryz.prog 246) 246)).upd (w1.dr d).heap.size (.cells (recV (unB xs)) 246 (0, 0))) := kz.upd (by omega) _
    exact ⟨hS.keepB k3 (by simp), rest k3 (hz.upd_same _) (fresh (Keep.refl _ _))⟩
theorem c_Unpack_short (h : SlL byLay w p l xs) (hl : l < 37) (hK : ∀ w', Keep (fun _ => False) w w' → R (.tuple #[.agg (recV zeroR), .int .i64 1]) w') : CallV Tryz.prog 207 #[.slice p l c] w R := by
  apply C_codec_Unpack
  unfold F_codec_Unpack
  refine alc_fresh fun w1 hb1 k1 z1 => ?_
  refine Cb_of (fun _ => ?_) (fun hc => by simp only [decide_eq_false_iff_not] at hc; omega)
  refine u_zero hb1 zc_rc fun w2 k2 => hK w2 (k1.trans' k2 fun k hk e => by omega)
end calls
end Go.Proofs
