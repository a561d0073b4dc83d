/-
  SUMS OF BYTES: what step, More and Crc answer; rows of bytes.
-/
import Derived.Test.YthhimblbnnafkaaGreatRowF
import Derived.Test.YthhimblbnnafkaaGreatFSum
import Derived.Test.YthhimblbnnafkaaGreatData
import Derived.Laws.CopyRow
import Derived.Laws.MakeOwn
namespace Go.Proofs
open Go Go.Ev
set_option linter.unusedSimpArgs false
set_option linter.unusedVariables false
set_option maxRecDepth 100000

def byLay : Lay Int := ⟨1, fun y => [.int .u8 y], fun _ => rfl, fun y v hv => by rw [List.mem_singleton.1 hv]; rfl, by decide⟩
theorem getD_at {α : Type} {xs : List α} {i : Nat} (hi : i < xs.length) (d : α) : xs[((i : Nat) : Int).toNat]? = some (xs.getD i d) := by
  rw [Int.toNat_natCast, List.getD_eq_getElem?_getD, List.getElem?_eq_getElem hi]; rfl
/-! ### plain -/
def bitS (c : Int) : Int := if (ibits .and .u32 c 1 == 1) = true then ibits .xor .u32 (ishr .u32 c 1) 3988292384 else ishr .u32 c 1
def itS : Nat → Int → Int
  | 0, c => c
  | n + 1, c => itS n (bitS c)
def stepS (c : Int) : Int := itS 8 c
def allS : Int := cond (IntKind.signed .u32) (-1) (IntKind.max .u32)
def foldS (c : Int) (l : List Int) : Int := l.foldl (fun c b => stepS (ibits .xor .u32 c (IntKind.wrap .u32 b))) c
def crcS (l : List Int) : Int := ibits .xor .u32 allS (foldS (ibits .xor .u32 allS 0) l)
def By (xs : List Int) : Prop := ∀ x ∈ xs, 0 ≤ x ∧ x ≤ 255
theorem byLayT : LayT Tryz.prog byLay 22 5 1 := ⟨by kernel_rfl, ⟨(Tryz.prog.info? 5).get (by kernel_rfl), ((Tryz.prog.info? 5).get (by kernel_rfl)).zero.get (by kernel_rfl), by kernel_rfl, by kernel_rfl, by kernel_rfl, by kernel_rfl, by kernel_rfl⟩⟩
theorem by_rows (xs : List Int) : byLay.rows xs = xs.map fun y => Value.int .u8 y := by
  unfold Lay.rows
  induction xs with
  | nil => rfl
  | cons x xs ih => rw [List.flatMap_cons, ih]; rfl
theorem take_succ_getD {l : List Int} {j : Nat} (hj : j < l.length) : l.take (j + 1) = l.take j ++ [l.getD j 0] := by
  rw [List.take_add_one, List.getD_eq_getElem?_getD, List.getElem?_eq_getElem hj]; rfl
theorem CallS_of {P : Program} {f : FuncId} {args : Array Value} {w : World} {V : Value} {K : Value → Prop} (h : CallV P f args w fun v w' => v = V ∧ w' = w) (hK : K V) : CallS P f args w K :=
  ⟨V, Calls.mono h fun e w' ⟨v, he, hv, hw⟩ => ⟨by rw [he, hv], hw⟩, hK⟩
theorem alc_fresh {w : World} {t : TypeId} {cs : Array Value} {K : Nat → World → Prop} (hK : ∀ w', Has w' w.heap.size (.cells cs t (0, 0)) → Keep (fun _ => False) w w' → w'.heap.size = w.heap.size + 1 → K w.heap.size w') : Alc t cs w fun b w => K b w := by
  rw [Alc_iff]
  exact hK _ (Has.new _ _) (Keep.new _ _ _) (by simp)
section calls
variable {w : World} {p : Option Addr} {l c : Nat} {xs : List Int} {R : Value → World → Prop}
theorem s_step {x : Int} (hK : R (.int .u32 (stepS x)) w) : CallV Tryz.prog 271 #[.int .u32 x] w R := by
  apply C_sum_step
  unfold F_sum_step
  refine LoopC_of (σ := Int × Int × Unit) (fun st w' => w' = w ∧ ∃ j : Nat, st.2.1 = j ∧ j ≤ 8 ∧ itS (8 - j) st.1 = stepS x) (fun st _ => (8 - st.2.1).toNat) ⟨rfl, 0, rfl, by omega, rfl⟩ ?_
  rintro _ ⟨y, i1, u⟩ w1 ⟨rfl, j, hj, hjl, hy⟩
  simp only at hj hy ⊢
  subst hj
  refine Cb_of (fun hc => ?_) (fun hc => ?_)
  · have hj : j < 8 := by simp only [decide_eq_true_eq] at hc; omega
    have ew : IntKind.wrap .i64 ((j : Int) + 1) = ((j + 1 : Nat) : Int) := by rw [wrapI (by omega) (by omega)]; omega
    rw [ew]
    have e : itS (8 - j) y = itS (8 - (j + 1)) (bitS y) := by
      have : 8 - j = (8 - (j + 1)) + 1 := by omega
      rw [this]; rfl
    rw [e] at hy
    unfold bitS at hy
    refine Cb_of (fun hb => ?_) (fun hb => ?_)
    · rw [if_pos hb] at hy
      exact ⟨by decide, _, by omega, ⟨by trivial, j + 1, rfl, hj, hy⟩, rfl⟩
    · rw [if_neg (by rw [hb]; simp)] at hy
      exact ⟨by decide, _, by omega, ⟨by trivial, j + 1, rfl, hj, hy⟩, rfl⟩
  · have hj : j = 8 := by simp only [decide_eq_false_iff_not] at hc; omega
    subst hj
    refine Ret_nil.2 ?_
    have hy : y = stepS x := hy
    rw [hy]; exact hK
theorem s_More {crc : Int} (h : SlL byLay w p l xs) (hl : l ≤ 1000000000) (hK : R (.int .u32 (ibits .xor .u32 allS (foldS (ibits .xor .u32 allS crc) xs))) w) : CallV Tryz.prog 245 #[.int .u32 crc, .slice p l c] w R := by
  apply C_sum_More
  unfold F_sum_More
  have hlen := h.1
  refine LoopC_of (σ := Int × Int × Unit) (fun st w' => w' = w ∧ ∃ j : Nat, st.2.1 = j ∧ j ≤ l ∧ st.1 = foldS (ibits .xor .u32 allS crc) (xs.take j)) (fun st _ => (l - st.2.1).toNat) ⟨rfl, 0, rfl, by omega, rfl⟩ ?_
  rintro _ ⟨y, i1, u⟩ w1 ⟨rfl, j, hj, hjl, hy⟩
  simp only at hj hy ⊢
  subst hj hy
  refine Cb_of (fun hc => ?_) (fun hc => ?_)
  · have hj : j < l := by simp only [decide_eq_true_eq] at hc; omega
    have ew : IntKind.wrap .i64 ((j : Int) + 1) = ((j + 1 : Nat) : Int) := by rw [wrapI (by omega) (by omega)]; omega
    rw [ew]
    refine h.ld0 rfl (by omega) (getD_at (xs := xs) (by omega) 0) (v := .int .u8 (xs.getD j 0)) rfl ?_
    refine OpI_int.2 ?_
    refine s_step ?_
    refine OpI_int.2 ?_
    refine ⟨_, by omega, ⟨by trivial, j + 1, rfl, hj, ?_⟩, rfl⟩
    rw [take_succ_getD (by omega)]
    unfold foldS
    rw [List.foldl_append]; rfl
  · have hj : j = l := by simp only [decide_eq_false_iff_not] at hc; omega
    subst hj
    refine Ret_nil.2 ?_
    rw [List.take_of_length_le (by omega)]
    exact hK
theorem s_Crc (h : SlL byLay w p l xs) (hl : l ≤ 1000000000) (hK : R (.int .u32 (crcS xs)) w) : CallV Tryz.prog 193 #[.slice p l c] w R := by
  apply C_sum_Crc
  unfold F_sum_Crc
  refine s_More h hl ?_
  exact OpI_int.2 (Ret_nil.2 hK)
end calls
theorem Slc_from {n cap lo : Nat} {K : Nat → Nat → Nat → Prop} (h1 : lo ≤ n) (h2 : n ≤ cap) (hK : K lo n cap) : Slc n cap (some (lo : Int)) none none K := by
  refine ⟨?_, ?_, ?_, ?_, ?_⟩
  · show (0 : Int) ≤ (lo : Int); omega
  · show (lo : Int) ≤ (n : Int); omega
  · show (n : Int) ≤ (cap : Int); omega
  · show (cap : Int) ≤ (cap : Int); omega
  · show K (Int.toNat (lo : Int)) (Int.toNat (n : Int)) (Int.toNat (cap : Int))
    rw [Int.toNat_natCast, Int.toNat_natCast, Int.toNat_natCast]; exact hK
theorem Slc_hiN {n cap hi : Nat} {K : Nat → Nat → Nat → Prop} (h1 : hi ≤ cap) (hK : K 0 hi cap) : Slc n cap none (some (hi : Int)) none K := by
  refine ⟨by decide, (show (0 : Int) ≤ (hi : Int) by omega), ?_, ?_, ?_⟩
  · show (hi : Int) ≤ (cap : Int); omega
  · show (cap : Int) ≤ (cap : Int); omega
  · show K (Int.toNat 0) (Int.toNat (hi : Int)) (Int.toNat (cap : Int))
    rw [Int.toNat_natCast, Int.toNat_natCast]; exact hK
theorem Slc_all {n cap : Nat} {K : Nat → Nat → Nat → Prop} (h1 : n ≤ cap) (hK : K 0 n cap) : Slc n cap none none none K := by
  refine ⟨by decide, (show (0 : Int) ≤ (n : Int) by omega), ?_, ?_, ?_⟩
  · show (n : Int) ≤ (cap : Int); omega
  · show (cap : Int) ≤ (cap : Int); omega
  · show K (Int.toNat 0) (Int.toNat (n : Int)) (Int.toNat (cap : Int))
    rw [Int.toNat_natCast, Int.toNat_natCast]; exact hK
/-- a load that leans on a class of worlds -/
theorem SlL.ldSd {α : Type} {L : Lay α} {S : World → Prop} {w0 : World} {p : Option Addr} {l : Nat} {xs : List α} (h0 : S w0) (h : ∀ w', S w' → SlL L w' p l xs) {i : Int} {x : α} {n : Nat} {v : Value} (hn : L.size = n) (hi0 : 0 ≤ i) (hi : xs[i.toNat]? = some x)
    (hv : (L.row x)[0]? = some v) {K : Value → Prop} (hK : K v) : IdxS p l i n fun b o => LdV b o S K := by
  subst hn
  obtain ⟨b, o, hp, _⟩ := (h w0 h0).2 _ x hi
  have hlt := (List.getElem?_eq_some_iff.1 hi).1
  have hl := (h w0 h0).1
  refine ⟨b, o, hp, hi0, by omega, v, ?_, hK⟩
  intro w' hw
  obtain ⟨b', o', hp', hc⟩ := (h w' hw).2 _ x hi
  rw [hp] at hp'
  cases hp'
  have := hc 0 L.pos
  rw [Nat.add_zero] at this
  rw [this, hv]
section copies
variable {w : World} {base : Nat} {p : Option Addr} {l c : Nat} {xs : List Int}
def secB (f : Sec) : List Int := [f 0, f 1, f 2, f 3, f 4, f 5, f 6, f 7, f 8, f 9, f 10, f 11, f 12, f 13, f 14, f 15]
theorem own_copy {e : TypeId} {g : Nat} (ho : OwnL byLay w base e (some ⟨g, 0, none⟩) l c xs) {a : Addr} {ds : List Int} (hd : ∀ j x, ds[j]? = some x → w.cell? (a.add j) = some (.int .u8 x)) {lo n : Nat} (hn : ds.length = n) (hlo : lo + n ≤ l) (dCap sCap : Nat) :
    ∃ w', (Builtin.copy_ #[22, 22] 3 #[.slice (some ⟨g, lo, none⟩) n dCap, .slice (some a) n sCap]).run Tryz.prog w = .ok (.int .i64 n) w' ∧ OwnL byLay w' base e (some ⟨g, 0, none⟩) l c (xs.take lo ++ ds ++ xs.drop (lo + n)) ∧ Keep (fun k => k = g) w w' := by
  rcases Own.cases ho with ⟨h0, _⟩ | ⟨b', cur, h0, hb, hg, hle, hm, hs, ht⟩
  · cases h0
  cases h0
  have hbl : byLay.size = 1 := rfl
  rw [hbl, Nat.mul_one] at hs ht
  have hlen : (ds.map fun x => Value.int .u8 x).length = n := by simpa using hn
  have hsrc : ∀ j v, (ds.map fun x => Value.int .u8 x)[j]? = some v → w.cell? (a.add j) = some v := by
    intro j v hv
    rw [List.getElem?_map] at hv
    cases hx : ds[j]? with
    | none => rw [hx] at hv; cases hv
    | some x => rw [hx] at hv; cases hv; exact hd j x hx
  have hr := run_copy_row (P := Tryz.prog) w 22 22 3 5 g lo n dCap a n sCap cur e (ds.map fun x => Value.int .u8 x) (by kernel_rfl) (by kernel_rfl) hg (by rw [hlen]; simp) hsrc (by rw [hlen]; omega) (fun v hv => by obtain ⟨x, _, rfl⟩ := List.mem_map.1 hv; rfl)
  rw [hlen] at hr
  refine ⟨_, hr, ?_, ?_⟩
  · refine Own.mk (cur := (cur.toList.take lo ++ (ds.map fun x => Value.int .u8 x) ++ cur.toList.drop (lo + n)).toArray) hb (setRow_heap w g cur _ e _ hg) hle hm ?_ ?_
    · simp only [List.size_toArray, List.length_append, List.length_take, List.length_drop, Array.length_toList, hlen, hbl]
      omega
    · rw [hbl, Nat.mul_one]
      have := spl_take (cur := cur) (o := lo) (n := n) (m := l) (r := ds.map fun x => Value.int .u8 x) hlen hlo (by omega)
      unfold spl at this
      simp only [List.size_toArray, hlen] at this
      rw [this, ht, by_rows, by_rows]
      simp
  · exact ⟨rfl, rfl, rfl, by simp, fun k _ hk => setRow_other w g k _ (fun e => hk e)⟩
end copies
end Go.Proofs
