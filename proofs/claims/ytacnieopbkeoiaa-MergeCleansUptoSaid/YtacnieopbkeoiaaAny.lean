/-
  MergeAny, the walk: merging does not hang on the order of the lists.
-/
import Derived.Test.YtacnieopbkeoiaaDirties
namespace Go.Proofs
open Go Go.Ev Go.RowKit
set_option linter.unusedSimpArgs false
set_option linter.unusedVariables false
set_option maxRecDepth 100000

def Left (all rs : List Rec) : Prop := rs.Perm (leftD (all.foldl stepD ([], []))) ∧ ByVer rs
theorem Left.sub {all rs : List Rec} (h : Left all rs) {r : Rec} (hr : r ∈ rs) : r ∈ all := by
  obtain ⟨⟨i, hi, _⟩, _⟩ := (left_mem _ r).1 (h.1.subset hr)
  exact List.mem_of_getElem? hi
theorem Left.ok {all rs : List Rec} (h : Left all rs) (ho : ∀ r ∈ all, RecOk r) : ∀ r ∈ rs, RecOk r := fun r hr => ho r (h.sub hr)
theorem left_len (all : List Rec) : (leftD (all.foldl stepD ([], []))).length ≤ all.length := by
  have step : ∀ (s : Sta) (r : Rec), (stepD s r).1.length ≤ s.1.length + 1 := by
    intro s r
    unfold stepD
    split
    · exact Nat.le_succ _
    · split
      · simp only
        cases mlook s.1 r.lba with
        | none => simp only [length_ins]; split <;> omega
        | some q =>
          simp only
          split
          · simp only [length_ins]; split <;> omega
          · omega
      · omega
  have : ∀ (s : Sta), (all.foldl stepD s).1.length ≤ s.1.length + all.length := by
    induction all with
    | nil => intro s; simp
    | cons r all ih =>
      intro s
      rw [List.foldl_cons, List.length_cons]
      have := ih (stepD s r)
      have := step s r
      omega
  have h := this ([], [])
  unfold leftD
  rw [List.length_map]
  have := List.length_filter_le (keptB (all.foldl stepD ([], [])).2) (all.foldl stepD ([], [])).1
  simp at h
  omega
theorem Left.len {all rs : List Rec} (h : Left all rs) : rs.length ≤ all.length := by rw [h.1.length_eq]; exact left_len all

theorem bsls_two (p : Option Addr) (l c : Nat) (p2 : Option Addr) (l2 c2 : Nat) (w : World) : (Instr.buildSlice 44 2 #[(0, .slice p l c), (1, .slice p2 l2 c2)]).run Try.prog w = .ok (.slice (some ⟨w.heap.size, 0, none⟩) 2 2) (w.alloc (.cells #[.slice p l c, .slice p2 l2 c2] 37)) :=
  run_buildSlice w 44 37 2 _ #[.slice p l c, .slice p2 l2 c2] ((Try.prog.info? 37).get (by kernel_rfl)) (.slice none 0 0) (by kernel_rfl) (by kernel_rfl) (by kernel_rfl) (by decide +kernel) (by decide +kernel) (by kernel_rfl)
theorem bsls_three (p : Option Addr) (l c : Nat) (p2 : Option Addr) (l2 c2 : Nat) (p3 : Option Addr) (l3 c3 : Nat) (w : World) : (Instr.buildSlice 44 3 #[(0, .slice p l c), (1, .slice p2 l2 c2), (2, .slice p3 l3 c3)]).run Try.prog w = .ok (.slice (some ⟨w.heap.size, 0, none⟩) 3 3) (w.alloc (.cells #[.slice p l c, .slice p2 l2 c2, .slice p3 l3 c3] 37)) :=
  run_buildSlice w 44 37 3 _ #[.slice p l c, .slice p2 l2 c2, .slice p3 l3 c3] ((Try.prog.info? 37).get (by kernel_rfl)) (.slice none 0 0) (by kernel_rfl) (by kernel_rfl) (by kernel_rfl) (by decide +kernel) (by decide +kernel) (by kernel_rfl)

theorem ListsL.mk {w : World} {xp : Option Addr} {n : Nat} (Ps : List (Option Addr × Nat × Nat)) {rss : List (List Rec)} (h : SlL hdLay w xp n Ps) (hr : All2 (fun (P : Option Addr × Nat × Nat) rs => SlL recLay w P.1 P.2.1 rs) Ps rss) : ListsL w xp n rss := by
  refine ⟨Ps, h, hr.len, fun i P rs hP hrs => ?_⟩
  clear h
  induction hr generalizing i with
  | nil => simp at hP
  | cons ha _ ih =>
    cases i with
    | zero => simp at hP hrs; subst hP hrs; exact ha
    | succ i => exact ih i (by simpa using hP) (by simpa using hrs)

section
variable {w : World} {p1 p2 p3 : Option Addr} {l1 c1 l2 c2 l3 c3 : Nat} {r1 r2 r3 : List Rec} {K : Value → World → Prop}
theorem heads1 (h1 : SlL recLay w p1 l1 r1) (hK : ∀ b w', ListsL w' (some ⟨b, 0, none⟩) 1 [r1] → Keep (fun _ => False) w w' → K (.slice (some ⟨b, 0, none⟩) 1 1) w') :
    DoV Try.prog (Instr.buildSlice 44 1 #[(0, .slice p1 l1 c1)]) w K := by
  refine ⟨_, _, bsls_one p1 l1 c1 w, hK _ _ (ListsL.mk [(p1, l1, c1)] (OwnL.new (L := hdLay) (xs := [(p1, l1, c1)]) (by simp [maxLen]) rfl).sl (.cons ?_ .nil)) (Keep.new _ _ _)⟩
  exact h1.keepB (Keep.new (fun _ => False) _ _) (by simp)
theorem heads2 (h1 : SlL recLay w p1 l1 r1) (h2 : SlL recLay w p2 l2 r2) (hK : ∀ b w', ListsL w' (some ⟨b, 0, none⟩) 2 [r1, r2] → Keep (fun _ => False) w w' → K (.slice (some ⟨b, 0, none⟩) 2 2) w') :
    DoV Try.prog (Instr.buildSlice 44 2 #[(0, .slice p1 l1 c1), (1, .slice p2 l2 c2)]) w K := by
  refine ⟨_, _, bsls_two p1 l1 c1 p2 l2 c2 w, hK _ _ (ListsL.mk [(p1, l1, c1), (p2, l2, c2)] (OwnL.new (L := hdLay) (xs := [(p1, l1, c1), (p2, l2, c2)]) (by simp [maxLen]) rfl).sl (.cons ?_ (.cons ?_ .nil))) (Keep.new _ _ _)⟩
  · exact h1.keepB (Keep.new (fun _ => False) _ _) (by simp)
  · exact h2.keepB (Keep.new (fun _ => False) _ _) (by simp)
theorem heads3 (h1 : SlL recLay w p1 l1 r1) (h2 : SlL recLay w p2 l2 r2) (h3 : SlL recLay w p3 l3 r3) (hK : ∀ b w', ListsL w' (some ⟨b, 0, none⟩) 3 [r1, r2, r3] → Keep (fun _ => False) w w' → K (.slice (some ⟨b, 0, none⟩) 3 3) w') :
    DoV Try.prog (Instr.buildSlice 44 3 #[(0, .slice p1 l1 c1), (1, .slice p2 l2 c2), (2, .slice p3 l3 c3)]) w K := by
  refine ⟨_, _, bsls_three p1 l1 c1 p2 l2 c2 p3 l3 c3 w, hK _ _ (ListsL.mk [(p1, l1, c1), (p2, l2, c2), (p3, l3, c3)] (OwnL.new (L := hdLay) (xs := [(p1, l1, c1), (p2, l2, c2), (p3, l3, c3)]) (by simp [maxLen]) rfl).sl (.cons ?_ (.cons ?_ (.cons ?_ .nil)))) (Keep.new _ _ _)⟩
  · exact h1.keepB (Keep.new (fun _ => False) _ _) (by simp)
  · exact h2.keepB (Keep.new (fun _ => False) _ _) (by simp)
  · exact h3.keepB (Keep.new (fun _ => False) _ _) (by simp)
end
/-- merge.Dirty, said by rows -/
theorem dirty_L {xp : Option Addr} {n c : Nat} {rss : List (List Rec)} {all : List Rec} {w : World} {R : Value → World → Prop} (h : ListsL w xp n rss) (ha : rss.flatten = all) (hn : n ≤ 1000000) (ht : all.length ≤ 10000000)
    (hK : ∀ p l cp rs w', Left all rs → OwnL recLay w' w.heap.size 42 p l cp rs → Keep (fun _ => False) w w' → R (.slice p l cp) w') :
    CallV Try.prog 20 #[.slice xp n c] w R := by
  subst ha
  exact merge_Dirty h.lists (by omega) ht fun p l cp rs w' hp hb ho hk => hK p l cp rs w' ⟨hp, hb⟩ ho hk

/-! ### told -/
def toldR (r : Rec) : Rec := { r with data := sec [IntKind.wrap .u8 r.ver, IntKind.wrap .u8 (ishr .u64 r.ver 8), IntKind.wrap .u8 r.lba] }
theorem u8_range (x : Int) : 0 ≤ IntKind.wrap .u8 x ∧ IntKind.wrap .u8 x ≤ 255 := by
  simp [IntKind.wrap, IntKind.signed, IntKind.bits]; omega
theorem toldR_ok {r : Rec} (h : RecOk r) : RecOk (toldR r) := by
  refine ⟨h.1, h.2.1, h.2.2.1, sec_ok ?_⟩
  intro x hx
  simp only [List.mem_cons, List.not_mem_nil, or_false] at hx
  rcases hx with rfl | rfl | rfl <;> exact u8_range _
theorem told_det {a : List Rec} : ∀ r ∈ a.map toldR, ∀ s ∈ a.map toldR, r.kind = 1 → s.kind = 1 → r.lba = s.lba → r.ver = s.ver → r = s := by
  intro r hr s hs h1 h2 h3 h4
  obtain ⟨x, _, rfl⟩ := List.mem_map.1 hr
  obtain ⟨y, _, rfl⟩ := List.mem_map.1 hs
  obtain ⟨k, v, l, d⟩ := x
  obtain ⟨k', v', l', d'⟩ := y
  simp only [toldR] at *
  subst h1 h2 h3 h4
  rfl
theorem bld_sec3 (a b c : Int) (w : World) : (Instr.build 31 #[(0, .int .u8 a), (1, .int .u8 b), (2, .int .u8 c)]).run Try.prog w = .ok (.agg (secV (sec [a, b, c]))) w := run_build _ _ _ _ (by kernel_rfl)

theorem law_told {xp : Option Addr} {n c : Nat} {rs : List Rec} {w : World} {R : Value → World → Prop} (h : SlL recLay w xp n rs) (hn : n ≤ 10000000)
    (hK : ∀ p l cp w', OwnL recLay w' w.heap.size 42 p l cp (rs.map toldR) → Keep (fun _ => False) w w' → R (.slice p l cp) w') :
    CallV Try.prog 19 #[.slice xp n c] w R := by
  apply C_ravelinlaw13_told
  unfold F_ravelinlaw13_told
  refine ⟨_, _, bsl_none w, ?_⟩
  simp only [OpS_slice]
  have k1 := Keep.new (fun _ => False) w (.cells #[] 42)
  have hk0 : OwnL recLay (w.alloc (.cells #[] 42)) w.heap.size 42 (some ⟨w.heap.size, 0, none⟩) 0 0 [] := OwnL.new (L := recLay) (xs := []) (by simp) rfl
  have hln := h.1
  refine LoopC_of (σ := (Option Addr × Nat × Nat) × Int × Unit) (fun s w' => ∃ (i : Nat), s.2.1 = i ∧ i ≤ n ∧ OwnL recLay w' w.heap.size 42 s.1.1 s.1.2.1 s.1.2.2 ((rs.take i).map toldR) ∧ Keep (fun _ => False) w w')
    (fun s _ => (n - s.2.1).toNat) ⟨0, rfl, by omega, hk0, k1⟩ ?_
  clear hk0 k1
  intro _ s w1 hs
  obtain ⟨⟨q, lq, cq⟩, i, u⟩ := s
  obtain ⟨i, hi, hil, ho, k1⟩ := hs
  simp only at hi ho ⊢
  subst hi
  refine Cb_of (fun hc => ?_) (fun hc => ?_)
  · have hi : i < n := by simp only [decide_eq_true_eq] at hc; omega
    have ew : IntKind.wrap .i64 ((i : Int) + 1) = ((i + 1 : Nat) : Int) := by rw [wrapI (by omega) (by omega)]; omega
    rw [ew]
    have hir : i < rs.length := by omega
    have gr : rs[((i : Nat) : Int).toNat]? = some rs[i] := by rw [Int.toNat_natCast]; simp [hir]
    generalize hr : rs[i] = r at *
    refine (h.keepB k1 (by simp)).ldA rfl (by omega) gr ?_
    refine copy_of (K := fun b1 w => _) (by rw [zc_rec']; rfl) rfl (one_recV' r) fun w2 hb k2 _ => ?_
    refine LdV_has (v := .int .u64 r.ver) hb rfl ?_
    simp only [OpI_int]
    refine LdV_has (v := .int .u64 r.ver) hb rfl ?_
    simp only [OpI_int]
    refine ⟨by decide, ?_⟩
    refine LdV_has (v := .int .i64 r.lba) hb rfl ?_
    simp only [OpI_int]
    refine DoQ_of (fun d => bld_sec3 _ _ _ _) ?_
    simp only [OpA_agg]
    refine ⟨rfl, StA_of hb rfl (Nat.le_refl 19) (one_secV _) ?_⟩
    have hb3 := hb.upd_same (.cells (recV (toldR r)) 42)
    have k3 : Keep (fun _ => False) w1 (w2.upd w1.heap.size (.cells (recV (toldR r)) 42)) := k2.upd (by omega) _
    have es : spl (recLay.row r).toArray 3 (secV (sec [IntKind.wrap .u8 r.ver, IntKind.wrap .u8 (ishr .u64 r.ver 8), IntKind.wrap .u8 r.lba])) = recV (toldR r) := rfl
    simp only [es]
    generalize w2.upd w1.heap.size (.cells (recV (toldR r)) 42) = w3 at *
    refine LdA_all hb3 rfl ?_
    refine ⟨_, _, bsl_rec (toldR r) w3, ?_⟩
    simp only [OpS_slice]
    have k4 := Keep.new (fun _ => False) w3 (.cells (recV (toldR r)) 42)
    have k14 := k3.trans k4
    have hlq := ho.length
    obtain ⟨p', c', w5, hr5, ho5, k5⟩ := run_appendL1 recT (ho.keep k14 (by simp)) (Has.new w3 (.cells (recV (toldR r)) 42)) rfl (ty := 37) (c2 := 1)
      (by simp at hlq; omega) (by simp [maxLen]; simp at hlq; omega) (by have := k1.size; have := k14.size; omega)
    refine ⟨_, _, hr5, ?_⟩
    simp only [OpS_slice]
    refine ⟨_, by omega, ⟨i + 1, rfl, by omega, ?_, (k1.trans k14).trans' k5 (fun x hx hp => by have := (ho.lt hp).1; omega)⟩, rfl⟩
    have e : (rs.take (i + 1)).map toldR = (rs.take i).map toldR ++ [toldR r] := by rw [List.take_add_one]; simp [hir, hr]
    rw [e]
    exact ho5
  · have hi : i = n := by simp only [decide_eq_false_iff_not] at hc; omega
    subst hi
    simp only [Ret_nil]
    have e0 : rs.take i = rs := by rw [hln]; simp
    rw [e0] at ho
    exact hK q lq cq w1 ho k1

theorem any_walk {ap : Option Addr} {al ac : Nat} {ra : List Rec} {bp : Option Addr} {bl bc : Nat} {rb : List Rec} {W : World} (ha : SlL recLay W ap al ra) (hb : SlL recLay W bp bl rb) (la : al ≤ 1048576) (lb : bl ≤ 1048576)
    (oa : ∀ r ∈ ra, RecOk r) (ob : ∀ r ∈ rb, RecOk r) :
    CallV Try.prog 4 #[.slice ap al ac, .slice bp bl bc] W fun v w' => v = .bool true ∧ Below W.heap.size W w' := by
  apply C_ravelinlaw13_MergeAny
  unfold F_ravelinlaw13_MergeAny
  refine law13_awake fun w1 k1 => ?_
  simp only [OpB_bool, Bool.not_true, Cb_false]
  refine law_told (ha.keepB k1 (by simp)) (by omega) fun px lx cx w2 hx2 k2 => ?_
  simp only [OpS_slice]
  refine law_told (hb.keepB (k1.trans k2) (by simp)) (by omega) fun py ly cy w3 hy3 k3 => ?_
  simp only [OpS_slice]
  have hx := hx2.sl.keepB k3 (by simp)
  have hy := hy3.sl
  have k13 := (k1.trans k2).trans k3
  have nx : (ra.map toldR).length ≤ 1048576 := by rw [List.length_map, ← ha.1]; exact la
  have ny : (rb.map toldR).length ≤ 1048576 := by rw [List.length_map, ← hb.1]; exact lb
  have ox : ∀ r ∈ ra.map toldR, RecOk r := fun r hr => by obtain ⟨x, h, rfl⟩ := List.mem_map.1 hr; exact toldR_ok (oa x h)
  have oy : ∀ r ∈ rb.map toldR, RecOk r := fun r hr => by obtain ⟨x, h, rfl⟩ := List.mem_map.1 hr; exact toldR_ok (ob x h)
  have det : ∀ r ∈ ra.map toldR ++ rb.map toldR, ∀ s ∈ ra.map toldR ++ rb.map toldR, r.kind = 1 → s.kind = 1 → r.lba = s.lba → r.ver = s.ver → r = s := by
    rw [← List.map_append]; exact told_det
  have oxy : ∀ r ∈ ra.map toldR ++ rb.map toldR, RecOk r := fun r hr => (List.mem_append.1 hr).elim (ox r) (oy r)
  have hlx : lx = (ra.map toldR).length := hx.1
  have hly : ly = (rb.map toldR).length := hy.1
  clear ha hb hx2 hy3
  generalize ra.map toldR = x at *
  generalize rb.map toldR = y at *
  clear k1 k2 k3
  refine heads2 hx hy fun b w4 hl4 k4 => ?_
  simp only [OpS_slice]
  refine dirty_L hl4 (all := x ++ y) (by simp) (by omega) (by simp; omega) fun p3 l3 c3 r1 w5 hr1 ho1 k5 => ?_
  simp only [OpS_slice]
  have k45 := k4.trans k5
  refine heads2 (hy.keepB k45 (by simp)) (hx.keepB k45 (by simp)) fun b w6 hl6 k6 => ?_
  simp only [OpS_slice]
  refine dirty_L hl6 (all := y ++ x) (by simp) (by omega) (by simp; omega) fun p5 l5 c5 r2 w7 hr2 ho2 k7 => ?_
  simp only [OpS_slice]
  have k57 := k6.trans k7
  have k47 := k45.trans k57
  refine ⟨_, _, bsl_none w7, ?_⟩
  simp only [OpS_slice]
  have k8 := Keep.new (fun _ => False) w7 (.cells #[] 42)
  have hk0 : OwnL recLay (w7.alloc (.cells #[] 42)) w7.heap.size 42 (some ⟨w7.heap.size, 0, none⟩) 0 0 [] := OwnL.new (L := recLay) (xs := []) (by simp) rfl
  have k48 := k47.trans k8
  obtain ⟨p9, c9, w9, hr9, ho9, k9⟩ := run_appendL recT hk0 (hx.keepB k48 (by simp)) (c2 := cx) (ty := 37) (by omega) (by simp [maxLen]; omega) (by have := k8.size; omega)
  refine ⟨_, _, hr9, ?_⟩
  simp only [OpS_slice]
  have k79 : Keep (fun _ => False) w7 w9 := k8.trans' k9 (fun x hx hp => by simp only [Option.some.injEq, Addr.mk.injEq] at hp; omega)
  have k49 := k47.trans k79
  obtain ⟨p10, c10, w10, hr10, ho10, k10⟩ := run_appendL recT ho9 (hy.keepB k49 (by simp)) (c2 := cy) (ty := 37) (by omega) (by simp [maxLen]; omega) (by have := k79.size; omega)
  refine ⟨_, _, hr10, ?_⟩
  simp only [OpS_slice]
  have k7t : Keep (fun _ => False) w7 w10 := k79.trans' k10 (fun x hx hp => by have := (ho9.lt hp).1; omega)
  have k4t := k47.trans k7t
  refine heads1 ho10.sl fun b w11 hl11 k11 => ?_
  simp only [OpS_slice]
  refine dirty_L hl11 (all := x ++ y) (by simp) (by omega) (by simp; omega) fun p12 l12 c12 r3 w12 hr3 ho3 k12 => ?_
  simp only [OpS_slice]
  have k712 := (k7t.trans k11).trans k12
  have k412 := k47.trans k712
  refine heads3 (hx.keepB k412 (by simp)) (hy.keepB k412 (by simp)) (hx.keepB k412 (by simp)) fun b w13 hl13 k13' => ?_
  simp only [OpS_slice]
  refine dirty_L hl13 (all := x ++ (y ++ x)) (by simp) (by omega) (by simp; omega) fun p14 l14 c14 r4 w14 hr4 ho4 k14 => ?_
  simp only [OpS_slice]
  have k1214 := k13'.trans k14
  have k414 := k412.trans k1214
  refine heads2 (hx.keepB k414 (by simp)) (hy.keepB k414 (by simp)) fun b w15 hl15 k15 => ?_
  simp only [OpS_slice]
  refine dirty_L hl15 (all := x ++ y) (by simp) (by omega) (by simp; omega) fun p16 l16 c16 r5 w16 hr5 ho5 k16 => ?_
  simp only [OpS_slice]
  have k1416 := k15.trans k16
  have k416 := k414.trans k1416
  have h5len := hr5.len
  have hl16 := ho5.length
  rw [List.length_append] at h5len
  refine heads3 ho5.sl (hx.keepB k416 (by simp)) (hy.keepB k416 (by simp)) fun b w17 hl17 k17 => ?_
  simp only [OpS_slice]
  refine dirty_L hl17 (all := r5 ++ (x ++ y)) (by simp) (by omega) (by simp; omega) fun p18 l18 c18 r6 w18 hr6 ho6 k18 => ?_
  simp only [OpS_slice]
  have k1618 := k17.trans k18
  have k1218 := (k1214.trans k1416).trans k1618
  have k718 := k712.trans k1218
  have k518 := k57.trans k718
  have s1 := ho1.sl.keepB k518 (by simp)
  have s2 := ho2.sl.keepB k718 (by simp)
  have s3 := ho3.sl.keepB k1218 (by simp)
  have s4 := ho4.sl.keepB (k1416.trans k1618) (by simp)
  have s6 := ho6.sl
  have o1 := hr1.ok oxy
  have hl1 : l3 ≤ maxLen := by have := hr1.len; rw [s1.1]; simp [maxLen]; rw [List.length_append] at this; omega
  have e2 : r1 = r2 := left_same (fun r => by simp [or_comm]) det hr1.1 hr1.2 hr2.1 hr2.2
  have e3 : r1 = r3 := left_same (fun r => by simp) det hr1.1 hr1.2 hr3.1 hr3.2
  have e4 : r1 = r4 := left_same (a := x ++ y) (b := x ++ (y ++ x)) (fun r => by
    rw [List.mem_append, List.mem_append, List.mem_append]
    exact ⟨fun h => h.elim Or.inl (fun h => Or.inr (Or.inl h)), fun h => h.elim Or.inl (fun h => h.elim Or.inr Or.inl)⟩) det hr1.1 hr1.2 hr4.1 hr4.2
  have e6 : r1 = r6 := left_same (fun r => by
    constructor
    · exact fun h => List.mem_append.2 (Or.inr h)
    · exact fun h => (List.mem_append.1 h).elim (fun h => hr5.sub h) id) det hr1.1 hr1.2 hr6.1 hr6.2
  subst e2 e3 e4 e6
  refine same_recsD s1 s2 hl1 o1 o1 fun g d hg => ?_
  have : g = true := hg.2 rfl
  subst this
  simp only [OpB_bool, Cb_true]
  have kd := fun (d : Nat) => Keep.drew (fun _ => False) w18 d
  refine same_recsD (s1.keepB (kd d) (by simp)) (s3.keepB (kd d) (by simp)) hl1 o1 o1 fun g d2 hg => ?_
  have : g = true := hg.2 rfl
  subst this
  simp only [OpB_bool, Cb_true]
  refine same_recsD (s1.keepB (kd d2) (by simp)) (s4.keepB (kd d2) (by simp)) hl1 o1 o1 fun g d3 hg => ?_
  have : g = true := hg.2 rfl
  subst this
  simp only [OpB_bool, Cb_true]
  refine same_recsD (s1.keepB (kd d3) (by simp)) (s6.keepB (kd d3) (by simp)) hl1 o1 o1 fun g d4 hg => ?_
  have : g = true := hg.2 rfl
  subst this
  simp only [OpB_bool, Ret_nil]
  exact ⟨trivial, ((k13.trans (k45.trans k518)).trans (kd d4)).below⟩
end Go.Proofs
