/-
  MirrorBoth: the law says true.
-/
import Derived.Test.YtjikegaipldnhaaBothW
namespace Go.Proofs
open Go Go.Ev Go.RowKit
set_option linter.unusedSimpArgs false
set_option linter.unusedVariables false
set_option maxRecDepth 100000

theorem by_nil : By [] := fun x hx => by simp at hx
theorem by_append {a b : List Int} (h1 : By a) (h2 : By b) : By (a ++ b) := fun x hx => by
  rcases List.mem_append.1 hx with h | h
  · exact h1 x h
  · exact h2 x h
theorem both_walk {w : World} {lp fp : Option Addr} {ll lc fl fc : Nat} {ls : List Int} {fs : List Bool} {cut : Int} {drop : Bool} (hl : SlL byLay w lp ll ls) (hby : By ls) (hf : SlL boLay w fp fl fs) (hc : 0 ≤ cut ∧ cut ≤ 255) :
    CallV Try.prog 3 #[.slice lp ll lc, .slice fp fl fc, .int .u8 cut, .bool drop] w fun v w' => v = .bool true ∧ Below w.heap.size w w' := by
  have hll := hl.1
  have hfl := hf.1
  apply C_ravelinlaw12_MirrorBoth
  unfold F_ravelinlaw12_MirrorBoth
  refine CallV.mono aw12 ?_
  rintro _ w0 ⟨rfl, k0⟩
  refine OpB_bool.2 ((Cb_false (p := _)).2 ?_)
  refine start12_of (w := w0) (by decide) (by decide) (by decide) (by decide) fun q w1 hp hro hsz hlow k1 => ?_
  refine ⟨rfl, rfl, (Cb_false (p := _)).2 ?_⟩
  have ec : IntKind.wrap .i64 cut = cut := wrapI (by omega) (by omega)
  rw [ec]
  refine pr_Cut hp hc.1 (by omega) rfl fun w2 hp2 k2 => ?_
  refine OpI_int.2 ((Cb_false (p := _)).2 ?_)
  refine ⟨_, _, run_mk64i w2, OpS_slice.2 ?_⟩
  have k3 := Keep.new (fun _ => False) w2 (.cells (ofF 64 fun _ => .int .i64 0) 3)
  have hrow := Has.new w2 (.cells (ofF 64 fun _ => .int .i64 0) 3)
  have hs0 := k0.size
  have hs2 : w0.heap.size ≤ w2.heap.size := Nat.le_trans k1.size k2.size
  have k02 : Keep (fun _ => False) w w2 := Keep.lows (k0.trans k1) hs0 (PFoot.low k2 hlow)
  have k03 := k02.trans k3
  have hp3 := hp2.keep k3
  have hblw : w.heap.size ≤ w2.heap.size := k02.size
  generalize w2.alloc (.cells (ofF 64 fun _ => .int .i64 0) 3) = w3 at *
  generalize w2.heap.size = bl at *
  refine LoopC_of (σ := Int × Int × Unit) (fun st w' => ∃ (n m : Nat) (s : PS), st.2.1 = (n : Int) ∧ n ≤ ll ∧ n ≤ 200 ∧ PairAt w' q s ∧ Has w' bl (.cells (ofF 64 (rowM (recsB ls m))) 3 (0, 0)) ∧ Keep (fun _ => False) w w' ∧
      ((st.1 = -1 ∧ m = n ∧ Good12 ls s n) ∨ (n = m + 1 ∧ st.1 = (m : Int) ∧ End12 ls s.xa s.xb m m)))
    (fun st _ => (200 - st.2.1).toNat) ⟨0, 0, _, rfl, by omega, by omega, hp3, hrow, k03, Or.inl ⟨rfl, rfl, rfl, rfl, rfl, ?_, rfl, rfl, rfl, ?_⟩⟩ ?_
  · show 1 ≤ cut + 1 ∧ cut + 1 ≤ 1000; omega
  · intro k hk; simp [ps0] at hk
  rintro _ ⟨op, i, u⟩ w4 ⟨n, m, s, hi, hn, hn2, hp4, hr4, k4, hor⟩
  simp only at hi hor ⊢
  subst hi
  refine ⟨trivial, trivial, trivial, trivial, ?_⟩
  have hl4 := hl.keepB k4 (by simp)
  have hf4 := hf.keepB k4 (by simp)
  refine Cb_of (fun hcnd => ?_) (fun hcnd => ?_)
  · have hcnd : ((n : Int) < (ll : Int) ∧ (n : Int) < 200) ∧ op < 0 := by simpa using hcnd
    rcases hor with ⟨rfl, rfl, hg⟩ | ⟨_, hop, _⟩
    rotate_left
    · omega
    have fin : ∀ f : Bool, BoPut lp ll (some ⟨bl, 0, none⟩) 64 q.p (-1) (m : Int) (sideN f) w4 (fun v w' => v = .bool true ∧ Below w.heap.size w w') fun s' w' => ∃ m', m' < (200 - (m : Int)).toNat ∧ (∃ (n m : Nat) (s : PS), s'.2.1 = (n : Int) ∧ n ≤ ll ∧ n ≤ 200 ∧ PairAt w' q s ∧ Has w' bl (.cells (ofF 64 (rowM (recsB ls m))) 3 (0, 0)) ∧ Keep (fun _ => False) w w' ∧
      ((s'.1 = -1 ∧ m = n ∧ Good12 ls s n) ∨ (n = m + 1 ∧ s'.1 = (m : Int) ∧ End12 ls s.xa s.xb m m))) ∧ (200 - s'.2.1).toNat = m' := by
      intro f
      refine boPut hl4 hby (by omega) (by omega) hp4 hro hsz hg hr4 fun w' s' op' m' hp' hr' k' hor' => ?_
      refine ⟨_, ?_, ⟨m + 1, m', s', rfl, by omega, by omega, hp', hr', ?_, ?_⟩, rfl⟩
      · show (200 - ((m + 1 : Nat) : Int)).toNat < (200 - (m : Int)).toNat; omega
      · refine k4.trans' k' fun i hi hh => ?_
        rcases hh with hh | hh
        · obtain ⟨h1, h2, h3, h4, h5, h6⟩ := hlow
          rcases hh with e | e | e | e | e | ⟨e, _⟩ <;> omega
        · omega
      · rcases hor' with ⟨h1, h2, h3⟩ | ⟨h1, h2, h3⟩
        · exact Or.inl ⟨h1, h2, h3⟩
        · subst h2
          exact Or.inr ⟨rfl, h1, h3⟩
    refine Cb_of (fun hfn => ?_) (fun _ => ?_)
    · have hfn : (m : Int) < (fl : Int) := by simpa using hfn
      obtain ⟨g, hg'⟩ : ∃ g, fs[m]? = some g := ⟨_, List.getElem?_eq_getElem (by omega)⟩
      refine hf4.ld0 (i := (m : Int)) (n := 1) (x := g) (v := .bool g) rfl (by omega) (by simpa using hg') rfl ?_
      refine OpB_bool.2 ⟨fun st w' => ∃ f, st.1 = sideN f ∧ w' = w4, Cb_of (fun _ => ⟨true, rfl, rfl⟩) (fun _ => ⟨false, rfl, rfl⟩), ?_⟩
      rintro _ ⟨sd, u⟩ w5 ⟨f, hsd, hw⟩
      simp only at hsd
      subst hsd hw
      exact fin f
    · refine ⟨fun st w' => ∃ f, st.1 = sideN f ∧ w' = w4, ⟨false, rfl, rfl⟩, ?_⟩
      rintro _ ⟨sd, u⟩ w5 ⟨f, hsd, hw⟩
      simp only at hsd
      subst hsd hw
      exact fin f
  · obtain ⟨hm2, hop, ja, jb, ta, tb, hja, hjb, hta, htb, hbta, hbtb, hxa, hxb⟩ : m ≤ 200 ∧ (op = -1 ∨ op = (m : Int) ∧ m < ll ∧ m < 200) ∧ End12 ls s.xa s.xb op m := by
      rcases hor with ⟨h1, h2, h3⟩ | ⟨h1, h2, h3⟩
      · subst h2
        exact ⟨hn2, Or.inl h1, m, m, [], [], Or.inl rfl, Or.inl rfl, by decide, by decide, by_nil, by_nil, by rw [h3.xa, List.append_nil], by rw [h3.xb, List.append_nil]⟩
      · refine ⟨by omega, Or.inr ⟨h2, by omega, by omega⟩, ?_⟩
        rw [h2]; exact h3
    have hja2 : ja ≤ 200 := by omega
    have hjb2 : jb ≤ 200 := by omega
    refine pr_Restore hp4 fun w5 hp5 k5 => ?_
    obtain ⟨s5, hs5a, hs5b, hp5⟩ : ∃ s5 : PS, s5.xa = s.xa ∧ s5.xb = s.xb ∧ PairAt w5 q s5 := ⟨{ s with pw := ⟨true, 0, s.pw.steps⟩ }, rfl, rfl, hp5⟩
    have k05 : Keep (fun _ => False) w w5 := Keep.lows k4 hs0 (PFoot.low k5 hlow)
    have hr5 : Has w5 bl (.cells (ofF 64 (rowM (recsB ls m))) 3 (0, 0)) := PFoot.has k5 hr4 (by decide) hp4 (by decide) (by decide) (by decide)
    have eA : scanB (cond false s5.xb s5.xa) = recsB ls ja := by
      show scanB s5.xa = _
      rw [hs5a, hxa]; exact scan_flat (recsB_ok ls hja2) hta
    have eB : scanB (cond true s5.xb s5.xa) = recsB ls jb := by
      show scanB s5.xb = _
      rw [hs5b, hxb]; exact scan_flat (recsB_ok ls hjb2) htb
    have byA : By (cond false s5.xb s5.xa) := by
      show By s5.xa
      rw [hs5a, hxa]; exact by_append (by_flat fun r hr => (recsB_ok ls hja2 r hr).2.2) hbta
    have byB : By (cond true s5.xb s5.xa) := by
      show By s5.xb
      rw [hs5b, hxb]; exact by_append (by_flat fun r hr => (recsB_ok ls hjb2 r hr).2.2) hbtb
    refine pr_Rec hp5 false byA fun pA cA w6 oA k6 => ?_
    rw [eA] at oA ⊢
    refine OpS_slice.2 ?_
    refine pr_Rec (hp5.keep k6) true byB fun pB cB w7 oB k7 => ?_
    rw [eB] at oB ⊢
    refine OpS_slice.2 ?_
    refine ⟨_, _, bsl_s2 _ _ _ _ _ _ w7, OpS_slice.2 ?_⟩
    have k8 := Keep.new (fun _ => False) w7 (.cells #[.slice pA (recsB ls ja).length cA, .slice pB (recsB ls jb).length cB] 41)
    have h8 := Has.new w7 (.cells #[.slice pA (recsB ls ja).length cA, .slice pB (recsB ls jb).length cB] 41)
    have z8 : (w7.alloc (.cells #[.slice pA (recsB ls ja).length cA, .slice pB (recsB ls jb).length cB] 41)).heap.size = w7.heap.size + 1 := by simp
    generalize w7.alloc (.cells #[.slice pA (recsB ls ja).length cA, .slice pB (recsB ls jb).length cB] 41) = w8 at *
    have sl8 : OwnL sLay w8 w7.heap.size 41 (some ⟨w7.heap.size, 0, none⟩) 2 2 [(pA, (recsB ls ja).length, cA), (pB, (recsB ls jb).length, cB)] := OwnL.mk (xs := [(pA, (recsB ls ja).length, cA), (pB, (recsB ls jb).length, cB)]) (Nat.le_refl _) h8 (by simp [maxLen]) rfl
    have k58 := (k6.trans k7).trans k8
    have k08 := k05.trans k58
    have hr8 := k58.has hr5 (by simp)
    have oA8 := (oA.keep k7 (by simp)).keep k8 (by simp)
    have oB8 := oB.keep k8 (by simp)
    -- the lists that are read
    refine ⟨fun st w' => w' = w8 ∧ SlL sLay w8 st.1.1 st.1.2.1 (cond drop [(pA, (recsB ls ja).length, cA)] [(pA, (recsB ls ja).length, cA), (pB, (recsB ls jb).length, cB)]), ?_, ?_⟩
    · cases drop
      · exact (Cb_false (p := _)).2 ⟨rfl, sl8.sl⟩
      · refine (Cb_true (q := _)).2 (Slc_hiN (hi := 1) (by omega) ?_)
        have := sl8.sl.sub (lo := 0) (hi := 1) (m := 2) (by omega) (by omega) (by omega)
        exact ⟨rfl, this⟩
    rintro _ ⟨⟨sp, sl, sc⟩, u⟩ w9 ⟨hw, hsl⟩
    simp only at hsl ⊢
    rw [hw]
    clear hw
    obtain ⟨hs, hhs⟩ : ∃ hs, hs = cond drop [(pA, (recsB ls ja).length, cA)] [(pA, (recsB ls ja).length, cA), (pB, (recsB ls jb).length, cB)] := ⟨_, rfl⟩
    obtain ⟨Ls, hLs⟩ : ∃ Ls, Ls = cond drop [recsB ls ja] [recsB ls ja, recsB ls jb] := ⟨_, rfl⟩
    rw [← hhs] at hsl
    have hsaid : ∀ k : Int, mx Ls.flatten k 0 = mB ls m k ∨ (op = m ∧ lbAt ls m = k ∧ mx Ls.flatten k 0 = (m : Int) + 1) := fun k => by rw [hLs]; exact said12 hja hjb k drop
    have hrows : ∀ (i : Nat) (h : Option Addr × Nat × Nat), hs[i]? = some h → ∃ rs j b, Ls[i]? = some rs ∧ rs = recsB ls j ∧ j ≤ 200 ∧ OwnL rLay w8 b 46 h.1 h.2.1 h.2.2 rs := by
      intro i h hi
      rw [hhs] at hi
      rw [hLs]
      cases drop
      · match i, hi with
        | 0, hi => cases hi; exact ⟨_, ja, _, rfl, rfl, hja2, oA8⟩
        | 1, hi => cases hi; exact ⟨_, jb, _, rfl, rfl, hjb2, oB8⟩
        | i + 2, hi => simp at hi
      · match i, hi with
        | 0, hi => cases hi; exact ⟨_, ja, _, rfl, rfl, hja2, oA8⟩
        | i + 1, hi => simp at hi
    have hlen : hs.length = Ls.length := by rw [hhs, hLs]; cases drop <;> rfl
    have hslen := hsl.1
    have hsmall : sl ≤ 2 := by rw [hslen, hhs]; cases drop <;> simp
    clear hhs hLs
    refine ⟨_, _, run_mk64i w8, OpS_slice.2 ?_⟩
    have kf := Keep.new (fun _ => False) w8 (.cells (ofF 64 fun _ => .int .i64 0) 3)
    have hf9 := Has.new w8 (.cells (ofF 64 fun _ => .int .i64 0) 3)
    have z9 : (w8.alloc (.cells (ofF 64 fun _ => .int .i64 0) 3)).heap.size = w8.heap.size + 1 := by simp
    generalize w8.alloc (.cells (ofF 64 fun _ => .int .i64 0) 3) = w10 at *
    refine ⟨_, _, run_mk64u w10, OpS_slice.2 ?_⟩
    have ku := Keep.new (fun _ => False) w10 (.cells (ofF 64 fun _ => .int .u64 0) 36)
    have hu11 := Has.new w10 (.cells (ofF 64 fun _ => .int .u64 0) 36)
    have z11 : (w10.alloc (.cells (ofF 64 fun _ => .int .u64 0) 36)).heap.size = w10.heap.size + 1 := by simp
    generalize w10.alloc (.cells (ofF 64 fun _ => .int .u64 0) 36) = w11 at *
    have hf11 := ku.has hf9 (by simp)
    have k8b := kf.trans ku
    have hr11 := k8b.has hr8 (by simp)
    have hltb : bl < w8.heap.size := hr8.lt
    generalize hbf : w8.heap.size = bf at *
    generalize hbt : w10.heap.size = bt at *
    have hsl11 := hsl.keepB k8b (by simp)
    have k0b := k08.trans k8b
    have hrows11 : ∀ (i : Nat) (h : Option Addr × Nat × Nat), hs[i]? = some h → ∃ rs j b, Ls[i]? = some rs ∧ rs = recsB ls j ∧ j ≤ 200 ∧ OwnL rLay w11 b 46 h.1 h.2.1 h.2.2 rs ∧ ∀ k, h.1 = some ⟨k, 0, none⟩ → k < bf := by
      intro i h hi
      obtain ⟨rs, j, b, h1, h2, h3, h4⟩ := hrows i h hi
      exact ⟨rs, j, b, h1, h2, h3, h4.keep k8b (by simp), fun k hk => by have := (h4.lt hk).2; omega⟩
    have hslb : ∀ b o, sp = some ⟨b, o, none⟩ → 0 < sl → b < bf := by
      intro b o hsp h0
      obtain ⟨b', o', h1, h2⟩ := hsl.cells h0
      rw [hsp] at h1
      cases h1
      obtain ⟨u, hu⟩ : ∃ u, (sLay.rows hs)[0]? = some u := ⟨_, List.getElem?_eq_getElem (by rw [sLay.rows_len]; show 0 < hs.length * 1; omega)⟩
      have := h2 0 u hu
      unfold World.cell? at this
      rw [← hbf]
      refine Classical.byContradiction fun hn => ?_
      have : w8.heap[b]? = none := Array.getElem?_eq_none (by omega)
      simp_all
    refine LoopC_of (σ := Int × Unit) (fun st w' => ∃ i : Nat, st.1 = (i : Int) ∧ i ≤ sl ∧ Has w' bf (.cells (ofF 64 (rowM (Ls.take i).flatten)) 3 (0, 0)) ∧ Has w' bt (.cells (ofF 64 (rowU (Ls.take i).flatten)) 36 (0, 0)) ∧ Keep (fun k => k = bf ∨ k = bt) w11 w')
      (fun st _ => (sl - st.1).toNat) ⟨0, rfl, by omega, hf11, hu11, Keep.refl _ _⟩ ?_
    rintro _ ⟨i, u⟩ w12 ⟨i', hi, hin, hf12, hu12, k12⟩
    simp only at hi ⊢
    subst hi
    have hsl12 : SlL sLay w12 sp sl hs := by
      refine ⟨hslen, fun t x ht => ?_⟩
      obtain ⟨b, o, hsp, hcell⟩ := hsl11.2 t x ht
      refine ⟨b, o, hsp, fun j hj => ?_⟩
      have hv := hcell j hj
      have hj0 : j = 0 := by change j < 1 at hj; omega
      subst hj0
      have hb : b < bf := hslb b o hsp (by have := (List.getElem?_eq_some_iff.1 ht).1; omega)
      have : (sLay.row x)[0]? = some (.slice x.1 x.2.1 x.2.2) := rfl
      rw [this] at hv ⊢
      exact cell_keep k12 hv (by omega)
    refine Cb_of (fun hci => ?_) (fun hci => ?_)
    · have hci : i' < sl := by
        have : (i' : Int) < (sl : Int) := by simpa using hci
        omega
      obtain ⟨h, hh⟩ : ∃ h, hs[i']? = some h := ⟨_, List.getElem?_eq_getElem (by omega)⟩
      obtain ⟨rs, j, b, hLi, hrs, hj2, orow, hlo⟩ := hrows11 i' h hh
      have hrlen : rs.length ≤ 200 := by rw [hrs, len_recsB]; exact hj2
      have etk : (Ls.take (i' + 1)).flatten = (Ls.take i').flatten ++ rs := by rw [List.take_add_one, hLi]; simp
      refine LoopC_of (σ := Int × Unit) (fun st w' => ∃ t : Nat, st.1 = (t : Int) ∧ t ≤ rs.length ∧ Has w' bf (.cells (ofF 64 (rowM ((Ls.take i').flatten ++ rs.take t))) 3 (0, 0)) ∧ Has w' bt (.cells (ofF 64 (rowU ((Ls.take i').flatten ++ rs.take t))) 36 (0, 0)) ∧ Keep (fun k => k = bf ∨ k = bt) w11 w' ∧ Keep (fun k => k = bf ∨ k = bt) w12 w')
        (fun st _ => (rs.length - st.1).toNat) ⟨0, rfl, by omega, by simpa using hf12, by simpa using hu12, k12, Keep.refl _ _⟩ ?_
      rintro _ ⟨t, u⟩ w13 ⟨t', ht, htn, hf13, hu13, k13, k123⟩
      simp only at ht ⊢
      subst ht
      have hsl13 : SlL sLay w13 sp sl hs := by
        refine ⟨hslen, fun t x ht => ?_⟩
        obtain ⟨b, o, hsp, hcell⟩ := hsl12.2 t x ht
        refine ⟨b, o, hsp, fun j hj => ?_⟩
        have hv := hcell j hj
        have hj0 : j = 0 := by change j < 1 at hj; omega
        subst hj0
        have hb : b < bf := hslb b o hsp (by have := (List.getElem?_eq_some_iff.1 ht).1; omega)
        have : (sLay.row x)[0]? = some (.slice x.1 x.2.1 x.2.2) := rfl
        rw [this] at hv ⊢
        exact cell_keep k123 hv (by omega)
      have or13 : OwnL rLay w13 b 46 h.1 h.2.1 h.2.2 rs := orow.keep k13 fun k hk => by have := hlo k hk; omega
      have hl1 := or13.length
      refine hsl13.ld0 (i := (i' : Int)) (n := 1) (x := h) (v := .slice h.1 h.2.1 h.2.2) rfl (by omega) (by simpa using hh) rfl ?_
      refine OpS_slice.2 ?_
      refine Cb_of (fun hct => ?_) (fun hct => ?_)
      · have hct : t' < rs.length := by
          have : (t' : Int) < (h.2.1 : Int) := by simpa using hct
          omega
        refine hsl13.ld0 (i := (i' : Int)) (n := 1) (x := h) (v := .slice h.1 h.2.1 h.2.2) rfl (by omega) (by simpa using hh) rfl ?_
        refine OpS_slice.2 ?_
        have hget : rs[t']? = some (recB ls t') := by
          rw [hrs]
          unfold recsB
          rw [List.getElem?_map, List.getElem?_range (by rw [hrs, len_recsB] at hct; exact hct)]
          rfl
        refine boRec (R := fun v w' => v = .bool true ∧ Below w.heap.size w w') (K6 := fun s' w' => ∃ m', m' < (((rs.length : Nat) : Int) - (t' : Int)).toNat ∧ (∃ t : Nat, s'.1 = (t : Int) ∧ t ≤ rs.length ∧ Has w' bf (.cells (ofF 64 (rowM ((Ls.take i').flatten ++ rs.take t))) 3 (0, 0)) ∧ Has w' bt (.cells (ofF 64 (rowU ((Ls.take i').flatten ++ rs.take t))) 36 (0, 0)) ∧ Keep (fun k => k = bf ∨ k = bt) w11 w' ∧ Keep (fun k => k = bf ∨ k = bt) w12 w') ∧ (((rs.length : Nat) : Int) - s'.1).toNat = m') or13 hget (by omega) (by omega) hf13 hu13 fun w14 hf14 hu14 k14 => ?_
        have et : (Ls.take i').flatten ++ rs.take t' ++ [recB ls t'] = (Ls.take i').flatten ++ rs.take (t' + 1) := by rw [List.take_add_one, hget, List.append_assoc]; rfl
        rw [et] at hf14 hu14
        exact ⟨_, by show (((rs.length : Nat) : Int) - ((t' + 1 : Nat) : Int)).toNat < (((rs.length : Nat) : Int) - (t' : Int)).toNat; omega, ⟨t' + 1, rfl, by omega, hf14, hu14, k13.trans k14, k123.trans k14⟩, rfl⟩
      · have hct : t' = rs.length := by
          have : ¬ ((t' : Int) < (h.2.1 : Int)) := by simpa using hct
          omega
        subst hct
        rw [List.take_length, ← etk] at hf13 hu13
        have e3 : IntKind.wrap .i64 ((i' : Int) + 1) = ((i' + 1 : Nat) : Int) := by rw [wrapI (by omega) (by omega)]; omega
        exact ⟨_, by show (((sl : Nat) : Int) - IntKind.wrap .i64 ((i' : Int) + 1)).toNat < (((sl : Nat) : Int) - (i' : Int)).toNat; rw [e3]; omega, ⟨i' + 1, e3, by omega, hf13, hu13, k13⟩, rfl⟩
    · have hci : i' = sl := by
        have : ¬ ((i' : Int) < (sl : Int)) := by simpa using hci
        omega
      subst hci
      rw [List.take_of_length_le (by omega)] at hf12 hu12
      have hr12 := k12.has hr11 (by omega)
      have k012 : Keep (fun _ => False) w w12 := k0b.trans' k12 fun k hk hh => by
        have : w.heap.size ≤ bf := by rw [← hbf]; exact k08.size
        have : bf ≤ bt := by omega
        omega
      have hl12 := hl.keepB k012 (by simp)
      refine LoopC_of (σ := Int × Unit) (fun st w' => ∃ k : Nat, st.1 = (k : Int) ∧ k ≤ 64 ∧ Keep (fun _ => False) w12 w') (fun st _ => (64 - st.1).toNat) ⟨0, rfl, by omega, Keep.refl _ _⟩ ?_
      rintro _ ⟨k, u⟩ w15 ⟨k', hk, hkn, k15⟩
      dsimp only at hk ⊢
      subst hk
      have hf15 := k15.has hf12 (by simp)
      have hr15 := k15.has hr12 (by simp)
      have hl15 := hl12.keepB k15 (by simp)
      have hmB : ∀ j : Int, mx (recsB ls m) j 0 = mB ls m j := fun _ => rfl
      have next : ∀ d, k' < 64 → ∃ m', m' < (64 - (k' : Int)).toNat ∧ (∃ k : Nat, ((((k' + 1 : Nat) : Int), ()) : Int × Unit).1 = (k : Int) ∧ k ≤ 64 ∧ Keep (fun _ => False) w12 (w15.dr d)) ∧ (64 - ((((k' + 1 : Nat) : Int), ()) : Int × Unit).1).toNat = m' := fun d hk => ⟨_, by show (64 - ((k' + 1 : Nat) : Int)).toNat < _; omega, ⟨k' + 1, rfl, by omega, k15.dr d⟩, rfl⟩
      refine Cb_of (fun hc64 => ?_) (fun _ => ?_)
      · have hc64 : k' < 64 := by
          have : (k' : Int) < 64 := by simpa using hc64
          omega
        refine Cb_of (fun hop0 => ?_) (fun hop0 => ?_)
        · have hop0 : 0 ≤ op := by simpa using hop0
          obtain ⟨hopm, hmll, hm200⟩ : op = (m : Int) ∧ m < ll ∧ m < 200 := by
            rcases hop with h | h
            · omega
            · exact h
          rw [hopm]
          have hget := getD_at (xs := ls) (i := m) (by omega) 0
          have hb := hby (ls.getD m 0) (List.mem_of_getElem? hget)
          refine hl15.ld0 (i := (m : Int)) (n := 1) (x := ls.getD m 0) (v := .int .u8 (ls.getD m 0)) rfl (by omega) hget rfl ?_
          refine OpI_int.2 ⟨by decide, ?_⟩
          have hw : IntKind.wrap .i64 (ls.getD m 0) = ls.getD m 0 := wrapI (by omega) (by omega)
          have ht : Int.tmod (IntKind.wrap .i64 (ls.getD m 0)) 64 = lbAt ls m := by rw [hw, Int.tmod_eq_emod_of_nonneg (by omega)]; rfl
          rw [ht]
          refine Cb_of (fun hk => ?_) (fun hk => ?_)
          · have hk : lbAt ls m = (k' : Int) := by simpa using hk
            refine (ld_own hf15 (by omega) (by omega)).2 ?_
            refine OpI_int.2 ?_
            rw [Int.toNat_natCast]
            have e5 : IntKind.wrap .i64 ((m : Int) + 1) = (m : Int) + 1 := wrapI (by omega) (by omega)
            rw [e5]
            refine boChk (R := fun v w' => v = .bool true ∧ Below w.heap.size w w') (K7 := fun s' w' => ∃ m', m' < (64 - (k' : Int)).toNat ∧ (∃ k : Nat, s'.1 = (k : Int) ∧ k ≤ 64 ∧ Keep (fun _ => False) w12 w') ∧ (64 - s'.1).toNat = m') (late := (mx Ls.flatten (k' : Int) 0 == (m : Int) + 1)) hf15 hr15 hc64 ?_ fun d => next d hc64
            rcases hsaid k' with h | ⟨_, _, h⟩
            · exact Or.inl h
            · exact Or.inr (by rw [h]; simp)
          · have hk : lbAt ls m ≠ (k' : Int) := by simpa using hk
            refine boChk (R := fun v w' => v = .bool true ∧ Below w.heap.size w w') (K7 := fun s' w' => ∃ m', m' < (64 - (k' : Int)).toNat ∧ (∃ k : Nat, s'.1 = (k : Int) ∧ k ≤ 64 ∧ Keep (fun _ => False) w12 w') ∧ (64 - s'.1).toNat = m') (late := false) hf15 hr15 hc64 ?_ fun d => next d hc64
            rcases hsaid k' with h | ⟨_, h, _⟩
            · exact Or.inl h
            · exact absurd h hk
        · have hop0 : ¬ 0 ≤ op := by simpa using hop0
          refine boChk (R := fun v w' => v = .bool true ∧ Below w.heap.size w w') (K7 := fun s' w' => ∃ m', m' < (64 - (k' : Int)).toNat ∧ (∃ k : Nat, s'.1 = (k : Int) ∧ k ≤ 64 ∧ Keep (fun _ => False) w12 w') ∧ (64 - s'.1).toNat = m') (late := false) hf15 hr15 hc64 ?_ fun d => next d hc64
          rcases hsaid k' with h | ⟨h, _, _⟩
          · exact Or.inl h
          · omega
      · exact Ret_nil.2 ⟨trivial, (k012.trans k15).below⟩
end Go.Proofs
