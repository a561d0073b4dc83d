/-
  MergeCleans, the walk: a clean record takes away its sector's records up to its version, wherever it stands.
-/
import Derived.Test.YtacnieopbkeoiaaAny
namespace Go.Proofs
open Go Go.Ev Go.RowKit
set_option linter.unusedSimpArgs false
set_option linter.unusedVariables false
set_option maxRecDepth 100000

/-- a clean record that stands somewhere -/
theorem best_mid (a b : List Rec) {c : Rec} (hc : c.kind = 2) (x : Int) : bestOf (a ++ c :: b) x = bestOf (a ++ b) x := by
  unfold bestOf
  rw [List.foldl_append, List.foldl_append, List.foldl_cons]
  have : ∀ o, bst x o c = o := fun o => by unfold bst; rw [if_neg (fun h => by omega)]
  rw [this]
theorem left_mid (a b : List Rec) {c : Rec} (hc : c.kind = 2) (r : Rec) : r ∈ leftD ((a ++ c :: b).foldl stepD ([], [])) ↔ r ∈ leftD ((a ++ b).foldl stepD ([], [])) ∧ (r.lba ≠ c.lba ∨ r.ver > c.ver) := by
  rw [left_mem, left_mem, ← best_iff, ← best_iff, best_mid a b hc]
  have : Cln (a ++ c :: b) r ↔ Cln (a ++ b) r ∨ (c.lba = r.lba ∧ r.ver ≤ c.ver) := by
    unfold Cln
    constructor
    · rintro ⟨q, hq, h1, h2, h3⟩
      rcases List.mem_append.1 hq with hq | hq
      · exact Or.inl ⟨q, List.mem_append.2 (Or.inl hq), h1, h2, h3⟩
      · rcases List.mem_cons.1 hq with rfl | hq
        · exact Or.inr ⟨h2, h3⟩
        · exact Or.inl ⟨q, List.mem_append.2 (Or.inr hq), h1, h2, h3⟩
    · rintro (⟨q, hq, h1, h2, h3⟩ | ⟨h2, h3⟩)
      · refine ⟨q, ?_, h1, h2, h3⟩
        rcases List.mem_append.1 hq with hq | hq
        · exact List.mem_append.2 (Or.inl hq)
        · exact List.mem_append.2 (Or.inr (List.mem_cons.2 (Or.inr hq)))
      · exact ⟨c, List.mem_append.2 (Or.inr (List.mem_cons.2 (Or.inl rfl))), hc, h2, h3⟩
  rw [this]
  constructor
  · rintro ⟨h1, h2⟩
    refine ⟨⟨h1, fun h => h2 (Or.inl h)⟩, ?_⟩
    have := fun h => h2 (Or.inr h)
    by_cases e : r.lba = c.lba
    · right
      have := fun h => this ⟨e.symm, h⟩
      omega
    · exact Or.inl e
  · rintro ⟨⟨h1, h2⟩, h3⟩
    refine ⟨h1, ?_⟩
    rintro (h | ⟨h4, h5⟩)
    · exact h2 h
    · omega
def passB (c r : Rec) : Bool := !(r.lba == c.lba) || decide (r.ver > c.ver)
theorem passB_iff {c r : Rec} : passB c r = true ↔ r.lba ≠ c.lba ∨ r.ver > c.ver := by simp [passB]
theorem left_less {a b rs ss : List Rec} {c : Rec} (hc : c.kind = 2) (h : Left (a ++ b) rs) (k : Left (a ++ c :: b) ss) : ss = rs.filter (passB c) := by
  have l1 : (ss.map (·.lba)).Nodup := ((k.1.map (·.lba)).nodup_iff).2 (left_lbas _)
  have l2 : (rs.map (·.lba)).Nodup := ((h.1.map (·.lba)).nodup_iff).2 (left_lbas _)
  have l3 : ((rs.filter (passB c)).map (·.lba)).Nodup := l2.sublist (List.Sublist.map _ List.filter_sublist)
  refine byver_eq k.2 (h.2.sublist List.filter_sublist) (perm_of_mem l1 l3 fun r => ?_) l1
  rw [List.mem_filter, passB_iff, h.1.mem_iff, k.1.mem_iff, left_mid a b hc]
theorem left_ends {a rs ss : List Rec} {c : Rec} (hc : c.kind = 2) (h : Left (a ++ [c]) rs) (k : Left (c :: a) ss) : rs = ss := by
  have l1 : (rs.map (·.lba)).Nodup := ((h.1.map (·.lba)).nodup_iff).2 (left_lbas _)
  have l2 : (ss.map (·.lba)).Nodup := ((k.1.map (·.lba)).nodup_iff).2 (left_lbas _)
  refine byver_eq h.2 k.2 (perm_of_mem l1 l2 fun r => ?_) l1
  have e1 := left_mid a [] hc r
  have e2 := left_mid [] a hc r
  rw [List.append_nil] at e1
  rw [List.nil_append, List.nil_append] at e2
  rw [h.1.mem_iff, k.1.mem_iff, e1, e2]

/-- [c], in a block of its own -/
theorem one_rec {w : World} (r : Rec) {K : Value → World → Prop} (hK : ∀ b w', OwnL recLay w' w.heap.size 42 (some ⟨b, 0, none⟩) 1 1 [r] → Keep (fun _ => False) w w' → K (.slice (some ⟨b, 0, none⟩) 1 1) w') :
    DoV Try.prog (Instr.buildSlice 37 1 #[(0, .agg (recV r))]) w K :=
  ⟨_, _, bsl_rec r w, hK _ _ (OwnL.new (L := recLay) (xs := [r]) (by simp [maxLen]) (by simp [recLay, Lay.rows, recV])) (Keep.new _ _ _)⟩

set_option maxHeartbeats 4000000 in
theorem cleans_walk {ap : Option Addr} {al ac : Nat} {ra : List Rec} {bp : Option Addr} {bl bc : Nat} {rb : List Rec} {lba version : Int} {W : World} (ha : SlL recLay W ap al ra) (hb : SlL recLay W bp bl rb) (la : al ≤ 1048576) (lb : bl ≤ 1048576)
    (oa : ∀ r ∈ ra, RecOk r) (ob : ∀ r ∈ rb, RecOk r) (hl : 0 ≤ lba ∧ lba ≤ 255) (hv : 0 ≤ version ∧ version ≤ 255) :
    CallV Try.prog 5 #[.slice ap al ac, .slice bp bl bc, .int .u8 lba, .int .u8 version] W fun v w' => v = .bool true ∧ Below W.heap.size W w' := by
  apply C_ravelinlaw13_MergeCleans
  unfold F_ravelinlaw13_MergeCleans
  have na := ha.1
  have nb := hb.1
  refine law13_awake fun w1 k1 => ?_
  simp only [OpB_bool, Bool.not_true, Cb_false]
  rw [wrapU64 (by omega) (by omega), wrapI (x := lba) (by omega) (by omega)]
  refine DoQ_of (fun d => bld_rec3 _ _ _ _) ?_
  simp only [OpA_agg]
  obtain ⟨c, hc⟩ : ∃ c : Rec, c = ⟨2, version, lba, sec []⟩ := ⟨_, rfl⟩
  have ck : c.kind = 2 := by rw [hc]
  have cv : c.ver = version := by rw [hc]
  have cl : c.lba = lba := by rw [hc]
  have co : RecOk c := by rw [hc]; exact ⟨⟨by show _ ≤ (2 : Int); omega, by show (2 : Int) ≤ _; omega⟩, ⟨hv.1, by show version ≤ _; omega⟩, ⟨by show _ ≤ lba; omega, by show lba ≤ _; omega⟩, sec_ok (l := []) (fun x hx => by cases hx)⟩
  rw [← hc]
  clear hc
  refine ⟨rfl, copy_of (K := fun b1 w => _) (by rw [zc_rec']; rfl) rfl (one_recV' c) fun w2 hcb k2 _ => ?_⟩
  have k12 := k1.trans k2
  have ha2 := ha.keepB k12 (by simp)
  have hb2 := hb.keepB k12 (by simp)
  have oab : ∀ r ∈ ra ++ rb, RecOk r := fun r hr => (List.mem_append.1 hr).elim (oa r) (ob r)
  have oba : ∀ r ∈ rb ++ ra, RecOk r := fun r hr => (List.mem_append.1 hr).elim (ob r) (oa r)
  clear ha hb k1 k2
  generalize w1.heap.size = cb at *
  refine heads2 ha2 hb2 fun b w4 hl4 k4 => ?_
  simp only [OpS_slice]
  refine dirty_L hl4 (all := ra ++ rb) (by simp) (by omega) (by simp; omega) fun p3 l3 c3 r1 w5 hr1 ho1 k5 => ?_
  simp only [OpS_slice]
  have k45 := k4.trans k5
  refine ⟨_, _, bsl_none w5, ?_⟩
  simp only [OpS_slice]
  have k6 := Keep.new (fun _ => False) w5 (.cells #[] 42)
  have hk0 : OwnL recLay (w5.alloc (.cells #[] 42)) w5.heap.size 42 (some ⟨w5.heap.size, 0, none⟩) 0 0 [] := OwnL.new (L := recLay) (xs := []) (by simp) rfl
  have k46 := k45.trans k6
  refine LdA_all (k46.has hcb (by simp)) rfl ?_
  refine one_rec c fun b7 w7 ho7 k7 => ?_
  simp only [OpS_slice]
  have k57 := k6.trans k7
  have hk7 := hk0.keep k7 (by simp)
  obtain ⟨p8, c8, w8, hr8, ho8, k8⟩ := run_appendL recT hk7 ho7.sl (c2 := 1) (ty := 37) (by omega) (by simp [maxLen]) (by have := k57.size; omega)
  refine ⟨_, _, hr8, ?_⟩
  simp only [OpS_slice]
  have k58 : Keep (fun _ => False) w5 w8 := k57.trans' k8 (fun x hx hp => by simp only [Option.some.injEq, Addr.mk.injEq] at hp; omega)
  have k48 := k45.trans k58
  obtain ⟨p9, c9, w9, hr9, ho9, k9⟩ := run_appendL recT ho8 (hb2.keepB k48 (by simp)) (c2 := bc) (ty := 37) (by omega) (by simp [maxLen]; omega) (by have := k58.size; omega)
  refine ⟨_, _, hr9, ?_⟩
  simp only [OpS_slice]
  have k59 : Keep (fun _ => False) w5 w9 := k58.trans' k9 (fun x hx hp => by have := (ho8.lt hp).1; omega)
  have k49 := k45.trans k59
  have s9 : SlL recLay w9 p9 (0 + 1 + bl) (c :: rb) := by have := ho9.sl; simpa using this
  refine heads2 (ha2.keepB k49 (by simp)) s9 fun b w10 hl10 k10 => ?_
  simp only [OpS_slice]
  refine dirty_L hl10 (all := ra ++ c :: rb) (by simp) (by omega) (by simp; omega) fun p11 l11 c11 r2 w11 hr2 ho2 k11 => ?_
  simp only [OpS_slice]
  have k511 := (k59.trans k10).trans k11
  have hless := left_less ck hr1 hr2
  have hlen1 := hr1.len
  rw [List.length_append] at hlen1
  have o1 := hr1.ok oab
  have hl3 := ho1.length
  refine ⟨_, _, bsl_none w11, ?_⟩
  simp only [OpS_slice]
  have k12' := Keep.new (fun _ => False) w11 (.cells #[] 42)
  have hk12 : OwnL recLay (w11.alloc (.cells #[] 42)) w11.heap.size 42 (some ⟨w11.heap.size, 0, none⟩) 0 0 [] := OwnL.new (L := recLay) (xs := []) (by simp) rfl
  refine LoopC_of (σ := (Option Addr × Nat × Nat) × Int × Unit) (fun s w' => ∃ (i : Nat), s.2.1 = i ∧ i ≤ l3 ∧ OwnL recLay w' w11.heap.size 42 s.1.1 s.1.2.1 s.1.2.2 ((r1.take i).filter (passB c)) ∧ Keep (fun _ => False) w11 w')
    (fun s _ => (l3 - s.2.1).toNat) ⟨0, rfl, by omega, hk12, k12'⟩ ?_
  clear hk12 k12' hk0 hk7
  intro _ s w12 hs
  obtain ⟨⟨q, lq, cq⟩, i, u⟩ := s
  obtain ⟨i, hi, hil, ho12, k12'⟩ := hs
  simp only at hi ho12 ⊢
  subst hi
  have k512 := k511.trans k12'
  have hcb12 : Has w12 cb (.cells (recV c) 42 (0, 0)) := (k45.trans k512).has hcb (by simp)
  have s1 := ho1.keep k512 (by simp)
  have lq1 := ho12.length
  have lq2 : ((r1.take i).filter (passB c)).length ≤ l3 := by
    have := List.length_filter_le (passB c) (r1.take i)
    rw [List.length_take] at this
    omega
  refine Cb_of (fun hcc => ?_) (fun hcc => ?_)
  · have hi : i < l3 := by simp only [decide_eq_true_eq] at hcc; omega
    have ew : IntKind.wrap .i64 ((i : Int) + 1) = ((i + 1 : Nat) : Int) := by rw [wrapI (by omega) (by omega)]; omega
    rw [ew]
    have hir : i < r1.length := by omega
    have gr : r1[((i : Nat) : Int).toNat]? = some r1[i] := by rw [Int.toNat_natCast]; simp [hir]
    have etake : r1.take (i + 1) = r1.take i ++ [r1[i]] := by rw [List.take_add_one]; simp [hir]
    generalize r1[i] = r at *
    have yes : passB c r = true → ∀ d, IdxS p3 l3 (i : Int) 19 fun b2 o1 => LdA 19 b2 o1 (At (w12.dr d)) fun cs2 => DoV Try.prog (Instr.buildSlice 37 1 #[(0, .agg cs2)]) (w12.dr d) fun v13 w => OpS v13 fun p9 l9 c9 => DoV Try.prog (Builtin.append_ #[37, 37] 37 #[.slice q lq cq, .slice p9 l9 c9]) w fun v14 w => OpS v14 fun p10 l10 c10 =>
        ∃ m', m' < ((l3 : Int) - (i : Int)).toNat ∧ ((∃ i' : Nat, ((i + 1 : Nat) : Int) = i' ∧ i' ≤ l3 ∧ OwnL recLay w w11.heap.size 42 p10 l10 c10 ((r1.take i').filter (passB c)) ∧ Keep (fun _ => False) w11 w) ∧ ((l3 : Int) - ((i + 1 : Nat) : Int)).toNat = m') := by
      intro hp d
      have kd := Keep.drew (fun _ => False) w12 d
      refine (s1.keep kd (by simp)).ldA rfl (by omega) gr ?_
      refine one_rec r fun b13 w13 ho13 k13 => ?_
      simp only [OpS_slice]
      have k1213 := kd.trans k13
      obtain ⟨p14, c14, w14, hr14, ho14, k14⟩ := run_appendL recT (ho12.keep k1213 (by simp)) ho13.sl (c2 := 1) (ty := 37) (by omega) (by simp [maxLen]; omega) (by have := k12'.size; have := k1213.size; omega)
      refine ⟨_, _, hr14, ?_⟩
      simp only [OpS_slice]
      refine ⟨_, by omega, ⟨i + 1, rfl, by omega, ?_, (k12'.trans k1213).trans' k14 (fun x hx hp => by have := (ho12.lt hp).1; omega)⟩, rfl⟩
      rw [etake, List.filter_append]
      have : [r].filter (passB c) = [r] := by simp [hp]
      rw [this]
      exact ho14
    refine s1.ldF (t := 2) rfl (by omega) gr (v := .int .i64 r.lba) rfl ?_
    simp only [OpI_int]
    refine LdV_has (v := .int .i64 c.lba) hcb12 rfl ?_
    simp only [OpI_int]
    refine Cb_of (fun h1 => ?_) (fun h1 => ?_)
    · intro d
      exact yes (passB_iff.2 (Or.inl (by simpa using h1))) d
    · have h1' : r.lba = c.lba := by simpa using h1
      refine s1.ldF (t := 1) rfl (by omega) gr (v := .int .u64 r.ver) rfl ?_
      simp only [OpI_int]
      refine LdV_has (v := .int .u64 c.ver) hcb12 rfl ?_
      simp only [OpI_int]
      intro d
      refine Cb_of (fun h2 => ?_) (fun h2 => ?_)
      · exact yes (passB_iff.2 (Or.inr (by simpa using h2))) d
      · refine ⟨_, by omega, ⟨i + 1, rfl, by omega, ?_, k12'.dr d⟩, rfl⟩
        rw [etake, List.filter_append]
        have hp : passB c r = false := by
          cases hb : passB c r
          · rfl
          · rcases passB_iff.1 hb with h | h
            · exact absurd h1' h
            · simp only [decide_eq_false_iff_not] at h2; omega
        have : [r].filter (passB c) = [] := by simp [hp]
        rw [this, List.append_nil]
        exact ho12.keep (Keep.drew (fun _ => False) w12 d) (by simp)
  · have hi : i = l3 := by simp only [decide_eq_false_iff_not] at hcc; omega
    subst hi
    have e0 : r1.take i = r1 := by rw [hl3]; simp
    rw [e0, ← hless] at ho12
    intro d0
    refine ⟨fun w => Has w cb (.cells (recV c) 42 (0, 0)), hcb12, ?_⟩
    have kd0 := Keep.drew (fun _ => False) w12 d0
    have k1112 := k12'.trans kd0
    have o2 : ∀ r ∈ r2, RecOk r := fun r hr => by rw [hless] at hr; exact o1 r (List.mem_filter.1 hr).1
    have s2 := (ho2.keep k1112 (by simp)).sl
    have l2le : l11 ≤ maxLen := Nat.le_trans ho2.cap.1 ho2.cap.2
    refine same_recsD s2 (ho12.keep kd0 (by simp)).sl l2le o2 o2 fun g d1 hg => ?_
    have hgt : g = true := hg.2 rfl
    subst hgt
    simp only [OpB_bool, Cb_true]
    have kd1 : Keep (fun _ => False) (w12.dr d0) ((w12.dr d0).dr d1) := Keep.drew _ _ _
    have kT := (k12.trans ((k45.trans k512).trans kd0)).trans kd1
    have haT := ha2.keepB (((k45.trans k512).trans kd0).trans kd1) (by simp)
    have hbT := hb2.keepB (((k45.trans k512).trans kd0).trans kd1) (by simp)
    have hcT : Has ((w12.dr d0).dr d1) cb (.cells (recV c) 42 (0, 0)) := hcb12
    refine ⟨hcT, ?_⟩
    generalize (w12.dr d0).dr d1 = z at *
    refine LdA_of (cs := recV c) rfl (fun w' h => ⟨_, _, _, h, Nat.le_refl 19, rfl⟩) ?_
    refine LdA_of (cs := recV c) rfl (fun w' h => ⟨_, _, _, h, Nat.le_refl 19, rfl⟩) ?_
    have obac : ∀ r ∈ rb ++ ra ++ [c], RecOk r := fun r hr => (List.mem_append.1 hr).elim (oba r) (fun h => by simp at h; rw [h]; exact co)
    have ocba : ∀ r ∈ c :: (rb ++ ra), RecOk r := fun r hr => (List.mem_cons.1 hr).elim (fun h => by rw [h]; exact co) (oba r)
    refine ⟨?_, ?_⟩
    · refine one_rec c fun b_10a3 w_10a3 o_10a3 k_10a3 => ?_
      simp only [OpS_slice]
      refine ⟨k_10a3.has hcT (by simp), ?_⟩
      refine ⟨?_, ?_⟩
      · refine heads3 (hbT.keepB k_10a3 (by simp)) (haT.keepB k_10a3 (by simp)) o_10a3.sl fun b_20a8 w_20a8 o_20a8 k_20a8 => ?_
        simp only [OpS_slice]
        have K_20a8 := k_10a3.trans k_20a8
        refine ⟨K_20a8.has hcT (by simp), ?_⟩
        refine ⟨?_, ?_⟩
        · refine dirty_L o_20a8 (all := rb ++ ra ++ [c]) (by simp) (by omega) (by simp; omega) fun p_30a14 l_30a14 c_30a14 r_30a14 w_30a14 L_30a14 o_30a14 k_30a14 => ?_
          simp only [OpS_slice]
          have K_30a14 := K_20a8.trans k_30a14
          refine ⟨K_30a14.has hcT (by simp), ?_⟩
          have q_c1_30a14 := k_20a8.trans k_30a14
          refine one_rec c fun b_31b19 w_31b19 o_31b19 k_31b19 => ?_
          simp only [OpS_slice]
          have K_31b19 := K_30a14.trans k_31b19
          refine ⟨K_31b19.has hcT (by simp), ?_⟩
          have q_c1_31b19 := q_c1_30a14.trans k_31b19
          have q_h1_31b19 := k_30a14.trans k_31b19
          refine heads3 o_31b19.sl (hbT.keepB K_31b19 (by simp)) (haT.keepB K_31b19 (by simp)) fun b_32b25 w_32b25 o_32b25 k_32b25 => ?_
          simp only [OpS_slice]
          have K_32b25 := K_31b19.trans k_32b25
          refine ⟨K_32b25.has hcT (by simp), ?_⟩
          have q_c1_32b25 := q_c1_31b19.trans k_32b25
          have q_h1_32b25 := q_h1_31b19.trans k_32b25
          have q_d1_32b25 := k_31b19.trans k_32b25
          refine dirty_L o_32b25 (all := c :: (rb ++ ra)) (by simp) (by omega) (by simp; omega) fun p_33b32 l_33b32 c_33b32 r_33b32 w_33b32 L_33b32 o_33b32 k_33b32 => ?_
          simp only [OpS_slice]
          have K_33b32 := K_32b25.trans k_33b32
          refine ⟨K_33b32.has hcT (by simp), ?_⟩
          have q_c1_33b32 := q_c1_32b25.trans k_33b32
          have q_h1_33b32 := q_h1_32b25.trans k_33b32
          have q_d1_33b32 := q_d1_32b25.trans k_33b32
          have q_c2_33b32 := k_32b25.trans k_33b32
          have e1 := left_ends ck L_30a14 L_33b32
          refine same_recsD (o_30a14.keep q_d1_33b32 (by simp)).sl o_33b32.sl (Nat.le_trans o_30a14.cap.1 o_30a14.cap.2) (L_30a14.ok obac) (L_33b32.ok ocba) fun g d hg => ?_
          have hgt : g = true := hg.2 e1
          subst hgt
          simp only [OpB_bool, Ret_nil]
          have kd : Keep (fun _ => False) w_33b32 (w_33b32.dr d) := Keep.drew _ _ _
          exact ⟨(K_33b32.trans kd).has hcT (by simp), trivial, (kT.trans (K_33b32.trans kd)).below⟩
        · refine one_rec c fun b_21b46 w_21b46 o_21b46 k_21b46 => ?_
          simp only [OpS_slice]
          have K_21b46 := K_20a8.trans k_21b46
          refine ⟨K_21b46.has hcT (by simp), ?_⟩
          have q_c1_21b46 := k_20a8.trans k_21b46
          refine ⟨?_, ?_⟩
          · refine dirty_L (o_20a8.keepB k_21b46 (by simp)) (all := rb ++ ra ++ [c]) (by simp) (by omega) (by simp; omega) fun p_31a53 l_31a53 c_31a53 r_31a53 w_31a53 L_31a53 o_31a53 k_31a53 => ?_
            simp only [OpS_slice]
            have K_31a53 := K_21b46.trans k_31a53
            refine ⟨K_31a53.has hcT (by simp), ?_⟩
            have q_c1_31a53 := q_c1_21b46.trans k_31a53
            have q_h1_31a53 := k_21b46.trans k_31a53
            refine heads3 (o_21b46.keep k_31a53 (by simp)).sl (hbT.keepB K_31a53 (by simp)) (haT.keepB K_31a53 (by simp)) fun b_32b59 w_32b59 o_32b59 k_32b59 => ?_
            simp only [OpS_slice]
            have K_32b59 := K_31a53.trans k_32b59
            refine ⟨K_32b59.has hcT (by simp), ?_⟩
            have q_c1_32b59 := q_c1_31a53.trans k_32b59
            have q_h1_32b59 := q_h1_31a53.trans k_32b59
            have q_c2_32b59 := k_31a53.trans k_32b59
            refine dirty_L o_32b59 (all := c :: (rb ++ ra)) (by simp) (by omega) (by simp; omega) fun p_33b66 l_33b66 c_33b66 r_33b66 w_33b66 L_33b66 o_33b66 k_33b66 => ?_
            simp only [OpS_slice]
            have K_33b66 := K_32b59.trans k_33b66
            refine ⟨K_33b66.has hcT (by simp), ?_⟩
            have q_c1_33b66 := q_c1_32b59.trans k_33b66
            have q_h1_33b66 := q_h1_32b59.trans k_33b66
            have q_c2_33b66 := q_c2_32b59.trans k_33b66
            have q_d1_33b66 := k_32b59.trans k_33b66
            have e1 := left_ends ck L_31a53 L_33b66
            refine same_recsD (o_31a53.keep q_d1_33b66 (by simp)).sl o_33b66.sl (Nat.le_trans o_31a53.cap.1 o_31a53.cap.2) (L_31a53.ok obac) (L_33b66.ok ocba) fun g d hg => ?_
            have hgt : g = true := hg.2 e1
            subst hgt
            simp only [OpB_bool, Ret_nil]
            have kd : Keep (fun _ => False) w_33b66 (w_33b66.dr d) := Keep.drew _ _ _
            exact ⟨(K_33b66.trans kd).has hcT (by simp), trivial, (kT.trans (K_33b66.trans kd)).below⟩
          · refine heads3 o_21b46.sl (hbT.keepB K_21b46 (by simp)) (haT.keepB K_21b46 (by simp)) fun b_22b80 w_22b80 o_22b80 k_22b80 => ?_
            simp only [OpS_slice]
            have K_22b80 := K_21b46.trans k_22b80
            refine ⟨K_22b80.has hcT (by simp), ?_⟩
            have q_c1_22b80 := q_c1_21b46.trans k_22b80
            have q_h1_22b80 := k_21b46.trans k_22b80
            refine dirty_L (o_20a8.keepB q_h1_22b80 (by simp)) (all := rb ++ ra ++ [c]) (by simp) (by omega) (by simp; omega) fun p_32a86 l_32a86 c_32a86 r_32a86 w_32a86 L_32a86 o_32a86 k_32a86 => ?_
            simp only [OpS_slice]
            have K_32a86 := K_22b80.trans k_32a86
            refine ⟨K_32a86.has hcT (by simp), ?_⟩
            have q_c1_32a86 := q_c1_22b80.trans k_32a86
            have q_h1_32a86 := q_h1_22b80.trans k_32a86
            have q_c2_32a86 := k_22b80.trans k_32a86
            refine dirty_L (o_22b80.keepB k_32a86 (by simp)) (all := c :: (rb ++ ra)) (by simp) (by omega) (by simp; omega) fun p_33b93 l_33b93 c_33b93 r_33b93 w_33b93 L_33b93 o_33b93 k_33b93 => ?_
            simp only [OpS_slice]
            have K_33b93 := K_32a86.trans k_33b93
            refine ⟨K_33b93.has hcT (by simp), ?_⟩
            have q_c1_33b93 := q_c1_32a86.trans k_33b93
            have q_h1_33b93 := q_h1_32a86.trans k_33b93
            have q_c2_33b93 := q_c2_32a86.trans k_33b93
            have q_h2_33b93 := k_32a86.trans k_33b93
            have e1 := left_ends ck L_32a86 L_33b93
            refine same_recsD (o_32a86.keep k_33b93 (by simp)).sl o_33b93.sl (Nat.le_trans o_32a86.cap.1 o_32a86.cap.2) (L_32a86.ok obac) (L_33b93.ok ocba) fun g d hg => ?_
            have hgt : g = true := hg.2 e1
            subst hgt
            simp only [OpB_bool, Ret_nil]
            have kd : Keep (fun _ => False) w_33b93 (w_33b93.dr d) := Keep.drew _ _ _
            exact ⟨(K_33b93.trans kd).has hcT (by simp), trivial, (kT.trans (K_33b93.trans kd)).below⟩
      · refine one_rec c fun b_11b107 w_11b107 o_11b107 k_11b107 => ?_
        simp only [OpS_slice]
        have K_11b107 := k_10a3.trans k_11b107
        refine ⟨K_11b107.has hcT (by simp), ?_⟩
        refine ⟨?_, ?_⟩
        · refine heads3 (hbT.keepB K_11b107 (by simp)) (haT.keepB K_11b107 (by simp)) (o_10a3.keep k_11b107 (by simp)).sl fun b_21a113 w_21a113 o_21a113 k_21a113 => ?_
          simp only [OpS_slice]
          have K_21a113 := K_11b107.trans k_21a113
          refine ⟨K_21a113.has hcT (by simp), ?_⟩
          have q_c1_21a113 := k_11b107.trans k_21a113
          refine ⟨?_, ?_⟩
          · refine dirty_L o_21a113 (all := rb ++ ra ++ [c]) (by simp) (by omega) (by simp; omega) fun p_31a120 l_31a120 c_31a120 r_31a120 w_31a120 L_31a120 o_31a120 k_31a120 => ?_
            simp only [OpS_slice]
            have K_31a120 := K_21a113.trans k_31a120
            refine ⟨K_31a120.has hcT (by simp), ?_⟩
            have q_c1_31a120 := q_c1_21a113.trans k_31a120
            have q_c2_31a120 := k_21a113.trans k_31a120
            refine heads3 (o_11b107.keep q_c2_31a120 (by simp)).sl (hbT.keepB K_31a120 (by simp)) (haT.keepB K_31a120 (by simp)) fun b_32b126 w_32b126 o_32b126 k_32b126 => ?_
            simp only [OpS_slice]
            have K_32b126 := K_31a120.trans k_32b126
            refine ⟨K_32b126.has hcT (by simp), ?_⟩
            have q_c1_32b126 := q_c1_31a120.trans k_32b126
            have q_c2_32b126 := q_c2_31a120.trans k_32b126
            have q_h1_32b126 := k_31a120.trans k_32b126
            refine dirty_L o_32b126 (all := c :: (rb ++ ra)) (by simp) (by omega) (by simp; omega) fun p_33b133 l_33b133 c_33b133 r_33b133 w_33b133 L_33b133 o_33b133 k_33b133 => ?_
            simp only [OpS_slice]
            have K_33b133 := K_32b126.trans k_33b133
            refine ⟨K_33b133.has hcT (by simp), ?_⟩
            have q_c1_33b133 := q_c1_32b126.trans k_33b133
            have q_c2_33b133 := q_c2_32b126.trans k_33b133
            have q_h1_33b133 := q_h1_32b126.trans k_33b133
            have q_d1_33b133 := k_32b126.trans k_33b133
            have e1 := left_ends ck L_31a120 L_33b133
            refine same_recsD (o_31a120.keep q_d1_33b133 (by simp)).sl o_33b133.sl (Nat.le_trans o_31a120.cap.1 o_31a120.cap.2) (L_31a120.ok obac) (L_33b133.ok ocba) fun g d hg => ?_
            have hgt : g = true := hg.2 e1
            subst hgt
            simp only [OpB_bool, Ret_nil]
            have kd : Keep (fun _ => False) w_33b133 (w_33b133.dr d) := Keep.drew _ _ _
            exact ⟨(K_33b133.trans kd).has hcT (by simp), trivial, (kT.trans (K_33b133.trans kd)).below⟩
          · refine heads3 (o_11b107.keep k_21a113 (by simp)).sl (hbT.keepB K_21a113 (by simp)) (haT.keepB K_21a113 (by simp)) fun b_22b147 w_22b147 o_22b147 k_22b147 => ?_
            simp only [OpS_slice]
            have K_22b147 := K_21a113.trans k_22b147
            refine ⟨K_22b147.has hcT (by simp), ?_⟩
            have q_c1_22b147 := q_c1_21a113.trans k_22b147
            have q_c2_22b147 := k_21a113.trans k_22b147
            refine dirty_L (o_21a113.keepB k_22b147 (by simp)) (all := rb ++ ra ++ [c]) (by simp) (by omega) (by simp; omega) fun p_32a153 l_32a153 c_32a153 r_32a153 w_32a153 L_32a153 o_32a153 k_32a153 => ?_
            simp only [OpS_slice]
            have K_32a153 := K_22b147.trans k_32a153
            refine ⟨K_32a153.has hcT (by simp), ?_⟩
            have q_c1_32a153 := q_c1_22b147.trans k_32a153
            have q_c2_32a153 := q_c2_22b147.trans k_32a153
            have q_h1_32a153 := k_22b147.trans k_32a153
            refine dirty_L (o_22b147.keepB k_32a153 (by simp)) (all := c :: (rb ++ ra)) (by simp) (by omega) (by simp; omega) fun p_33b160 l_33b160 c_33b160 r_33b160 w_33b160 L_33b160 o_33b160 k_33b160 => ?_
            simp only [OpS_slice]
            have K_33b160 := K_32a153.trans k_33b160
            refine ⟨K_33b160.has hcT (by simp), ?_⟩
            have q_c1_33b160 := q_c1_32a153.trans k_33b160
            have q_c2_33b160 := q_c2_32a153.trans k_33b160
            have q_h1_33b160 := q_h1_32a153.trans k_33b160
            have q_h2_33b160 := k_32a153.trans k_33b160
            have e1 := left_ends ck L_32a153 L_33b160
            refine same_recsD (o_32a153.keep k_33b160 (by simp)).sl o_33b160.sl (Nat.le_trans o_32a153.cap.1 o_32a153.cap.2) (L_32a153.ok obac) (L_33b160.ok ocba) fun g d hg => ?_
            have hgt : g = true := hg.2 e1
            subst hgt
            simp only [OpB_bool, Ret_nil]
            have kd : Keep (fun _ => False) w_33b160 (w_33b160.dr d) := Keep.drew _ _ _
            exact ⟨(K_33b160.trans kd).has hcT (by simp), trivial, (kT.trans (K_33b160.trans kd)).below⟩
        · refine heads3 o_11b107.sl (hbT.keepB K_11b107 (by simp)) (haT.keepB K_11b107 (by simp)) fun b_12b174 w_12b174 o_12b174 k_12b174 => ?_
          simp only [OpS_slice]
          have K_12b174 := K_11b107.trans k_12b174
          refine ⟨K_12b174.has hcT (by simp), ?_⟩
          have q_c1_12b174 := k_11b107.trans k_12b174
          refine heads3 (hbT.keepB K_12b174 (by simp)) (haT.keepB K_12b174 (by simp)) (o_10a3.keep q_c1_12b174 (by simp)).sl fun b_22a179 w_22a179 o_22a179 k_22a179 => ?_
          simp only [OpS_slice]
          have K_22a179 := K_12b174.trans k_22a179
          refine ⟨K_22a179.has hcT (by simp), ?_⟩
          have q_c1_22a179 := q_c1_12b174.trans k_22a179
          have q_c2_22a179 := k_12b174.trans k_22a179
          refine dirty_L o_22a179 (all := rb ++ ra ++ [c]) (by simp) (by omega) (by simp; omega) fun p_32a185 l_32a185 c_32a185 r_32a185 w_32a185 L_32a185 o_32a185 k_32a185 => ?_
          simp only [OpS_slice]
          have K_32a185 := K_22a179.trans k_32a185
          refine ⟨K_32a185.has hcT (by simp), ?_⟩
          have q_c1_32a185 := q_c1_22a179.trans k_32a185
          have q_c2_32a185 := q_c2_22a179.trans k_32a185
          have q_h2_32a185 := k_22a179.trans k_32a185
          refine dirty_L (o_12b174.keepB q_h2_32a185 (by simp)) (all := c :: (rb ++ ra)) (by simp) (by omega) (by simp; omega) fun p_33b192 l_33b192 c_33b192 r_33b192 w_33b192 L_33b192 o_33b192 k_33b192 => ?_
          simp only [OpS_slice]
          have K_33b192 := K_32a185.trans k_33b192
          refine ⟨K_33b192.has hcT (by simp), ?_⟩
          have q_c1_33b192 := q_c1_32a185.trans k_33b192
          have q_c2_33b192 := q_c2_32a185.trans k_33b192
          have q_h2_33b192 := q_h2_32a185.trans k_33b192
          have q_h1_33b192 := k_32a185.trans k_33b192
          have e1 := left_ends ck L_32a185 L_33b192
          refine same_recsD (o_32a185.keep k_33b192 (by simp)).sl o_33b192.sl (Nat.le_trans o_32a185.cap.1 o_32a185.cap.2) (L_32a185.ok obac) (L_33b192.ok ocba) fun g d hg => ?_
          have hgt : g = true := hg.2 e1
          subst hgt
          simp only [OpB_bool, Ret_nil]
          have kd : Keep (fun _ => False) w_33b192 (w_33b192.dr d) := Keep.drew _ _ _
          exact ⟨(K_33b192.trans kd).has hcT (by simp), trivial, (kT.trans (K_33b192.trans kd)).below⟩
    · refine one_rec c fun b_01b206 w_01b206 o_01b206 k_01b206 => ?_
      simp only [OpS_slice]
      refine ⟨k_01b206.has hcT (by simp), ?_⟩
      refine ⟨?_, ?_⟩
      · refine one_rec c fun b_11a211 w_11a211 o_11a211 k_11a211 => ?_
        simp only [OpS_slice]
        have K_11a211 := k_01b206.trans k_11a211
        refine ⟨K_11a211.has hcT (by simp), ?_⟩
        refine ⟨?_, ?_⟩
        · refine heads3 (hbT.keepB K_11a211 (by simp)) (haT.keepB K_11a211 (by simp)) o_11a211.sl fun b_21a217 w_21a217 o_21a217 k_21a217 => ?_
          simp only [OpS_slice]
          have K_21a217 := K_11a211.trans k_21a217
          refine ⟨K_21a217.has hcT (by simp), ?_⟩
          have q_c2_21a217 := k_11a211.trans k_21a217
          refine ⟨?_, ?_⟩
          · refine dirty_L o_21a217 (all := rb ++ ra ++ [c]) (by simp) (by omega) (by simp; omega) fun p_31a224 l_31a224 c_31a224 r_31a224 w_31a224 L_31a224 o_31a224 k_31a224 => ?_
            simp only [OpS_slice]
            have K_31a224 := K_21a217.trans k_31a224
            refine ⟨K_31a224.has hcT (by simp), ?_⟩
            have q_c2_31a224 := q_c2_21a217.trans k_31a224
            have q_c1_31a224 := k_21a217.trans k_31a224
            refine heads3 (o_01b206.keep q_c2_31a224 (by simp)).sl (hbT.keepB K_31a224 (by simp)) (haT.keepB K_31a224 (by simp)) fun b_32b230 w_32b230 o_32b230 k_32b230 => ?_
            simp only [OpS_slice]
            have K_32b230 := K_31a224.trans k_32b230
            refine ⟨K_32b230.has hcT (by simp), ?_⟩
            have q_c2_32b230 := q_c2_31a224.trans k_32b230
            have q_c1_32b230 := q_c1_31a224.trans k_32b230
            have q_h1_32b230 := k_31a224.trans k_32b230
            refine dirty_L o_32b230 (all := c :: (rb ++ ra)) (by simp) (by omega) (by simp; omega) fun p_33b237 l_33b237 c_33b237 r_33b237 w_33b237 L_33b237 o_33b237 k_33b237 => ?_
            simp only [OpS_slice]
            have K_33b237 := K_32b230.trans k_33b237
            refine ⟨K_33b237.has hcT (by simp), ?_⟩
            have q_c2_33b237 := q_c2_32b230.trans k_33b237
            have q_c1_33b237 := q_c1_32b230.trans k_33b237
            have q_h1_33b237 := q_h1_32b230.trans k_33b237
            have q_d1_33b237 := k_32b230.trans k_33b237
            have e1 := left_ends ck L_31a224 L_33b237
            refine same_recsD (o_31a224.keep q_d1_33b237 (by simp)).sl o_33b237.sl (Nat.le_trans o_31a224.cap.1 o_31a224.cap.2) (L_31a224.ok obac) (L_33b237.ok ocba) fun g d hg => ?_
            have hgt : g = true := hg.2 e1
            subst hgt
            simp only [OpB_bool, Ret_nil]
            have kd : Keep (fun _ => False) w_33b237 (w_33b237.dr d) := Keep.drew _ _ _
            exact ⟨(K_33b237.trans kd).has hcT (by simp), trivial, (kT.trans (K_33b237.trans kd)).below⟩
          · refine heads3 (o_01b206.keep q_c2_21a217 (by simp)).sl (hbT.keepB K_21a217 (by simp)) (haT.keepB K_21a217 (by simp)) fun b_22b251 w_22b251 o_22b251 k_22b251 => ?_
            simp only [OpS_slice]
            have K_22b251 := K_21a217.trans k_22b251
            refine ⟨K_22b251.has hcT (by simp), ?_⟩
            have q_c2_22b251 := q_c2_21a217.trans k_22b251
            have q_c1_22b251 := k_21a217.trans k_22b251
            refine dirty_L (o_21a217.keepB k_22b251 (by simp)) (all := rb ++ ra ++ [c]) (by simp) (by omega) (by simp; omega) fun p_32a257 l_32a257 c_32a257 r_32a257 w_32a257 L_32a257 o_32a257 k_32a257 => ?_
            simp only [OpS_slice]
            have K_32a257 := K_22b251.trans k_32a257
            refine ⟨K_32a257.has hcT (by simp), ?_⟩
            have q_c2_32a257 := q_c2_22b251.trans k_32a257
            have q_c1_32a257 := q_c1_22b251.trans k_32a257
            have q_h1_32a257 := k_22b251.trans k_32a257
            refine dirty_L (o_22b251.keepB k_32a257 (by simp)) (all := c :: (rb ++ ra)) (by simp) (by omega) (by simp; omega) fun p_33b264 l_33b264 c_33b264 r_33b264 w_33b264 L_33b264 o_33b264 k_33b264 => ?_
            simp only [OpS_slice]
            have K_33b264 := K_32a257.trans k_33b264
            refine ⟨K_33b264.has hcT (by simp), ?_⟩
            have q_c2_33b264 := q_c2_32a257.trans k_33b264
            have q_c1_33b264 := q_c1_32a257.trans k_33b264
            have q_h1_33b264 := q_h1_32a257.trans k_33b264
            have q_h2_33b264 := k_32a257.trans k_33b264
            have e1 := left_ends ck L_32a257 L_33b264
            refine same_recsD (o_32a257.keep k_33b264 (by simp)).sl o_33b264.sl (Nat.le_trans o_32a257.cap.1 o_32a257.cap.2) (L_32a257.ok obac) (L_33b264.ok ocba) fun g d hg => ?_
            have hgt : g = true := hg.2 e1
            subst hgt
            simp only [OpB_bool, Ret_nil]
            have kd : Keep (fun _ => False) w_33b264 (w_33b264.dr d) := Keep.drew _ _ _
            exact ⟨(K_33b264.trans kd).has hcT (by simp), trivial, (kT.trans (K_33b264.trans kd)).below⟩
        · refine heads3 (o_01b206.keep k_11a211 (by simp)).sl (hbT.keepB K_11a211 (by simp)) (haT.keepB K_11a211 (by simp)) fun b_12b278 w_12b278 o_12b278 k_12b278 => ?_
          simp only [OpS_slice]
          have K_12b278 := K_11a211.trans k_12b278
          refine ⟨K_12b278.has hcT (by simp), ?_⟩
          have q_c2_12b278 := k_11a211.trans k_12b278
          refine heads3 (hbT.keepB K_12b278 (by simp)) (haT.keepB K_12b278 (by simp)) (o_11a211.keep k_12b278 (by simp)).sl fun b_22a283 w_22a283 o_22a283 k_22a283 => ?_
          simp only [OpS_slice]
          have K_22a283 := K_12b278.trans k_22a283
          refine ⟨K_22a283.has hcT (by simp), ?_⟩
          have q_c2_22a283 := q_c2_12b278.trans k_22a283
          have q_c1_22a283 := k_12b278.trans k_22a283
          refine dirty_L o_22a283 (all := rb ++ ra ++ [c]) (by simp) (by omega) (by simp; omega) fun p_32a289 l_32a289 c_32a289 r_32a289 w_32a289 L_32a289 o_32a289 k_32a289 => ?_
          simp only [OpS_slice]
          have K_32a289 := K_22a283.trans k_32a289
          refine ⟨K_32a289.has hcT (by simp), ?_⟩
          have q_c2_32a289 := q_c2_22a283.trans k_32a289
          have q_c1_32a289 := q_c1_22a283.trans k_32a289
          have q_h2_32a289 := k_22a283.trans k_32a289
          refine dirty_L (o_12b278.keepB q_h2_32a289 (by simp)) (all := c :: (rb ++ ra)) (by simp) (by omega) (by simp; omega) fun p_33b296 l_33b296 c_33b296 r_33b296 w_33b296 L_33b296 o_33b296 k_33b296 => ?_
          simp only [OpS_slice]
          have K_33b296 := K_32a289.trans k_33b296
          refine ⟨K_33b296.has hcT (by simp), ?_⟩
          have q_c2_33b296 := q_c2_32a289.trans k_33b296
          have q_c1_33b296 := q_c1_32a289.trans k_33b296
          have q_h2_33b296 := q_h2_32a289.trans k_33b296
          have q_h1_33b296 := k_32a289.trans k_33b296
          have e1 := left_ends ck L_32a289 L_33b296
          refine same_recsD (o_32a289.keep k_33b296 (by simp)).sl o_33b296.sl (Nat.le_trans o_32a289.cap.1 o_32a289.cap.2) (L_32a289.ok obac) (L_33b296.ok ocba) fun g d hg => ?_
          have hgt : g = true := hg.2 e1
          subst hgt
          simp only [OpB_bool, Ret_nil]
          have kd : Keep (fun _ => False) w_33b296 (w_33b296.dr d) := Keep.drew _ _ _
          exact ⟨(K_33b296.trans kd).has hcT (by simp), trivial, (kT.trans (K_33b296.trans kd)).below⟩
      · refine heads3 o_01b206.sl (hbT.keepB k_01b206 (by simp)) (haT.keepB k_01b206 (by simp)) fun b_02b310 w_02b310 o_02b310 k_02b310 => ?_
        simp only [OpS_slice]
        have K_02b310 := k_01b206.trans k_02b310
        refine ⟨K_02b310.has hcT (by simp), ?_⟩
        refine one_rec c fun b_12a314 w_12a314 o_12a314 k_12a314 => ?_
        simp only [OpS_slice]
        have K_12a314 := K_02b310.trans k_12a314
        refine ⟨K_12a314.has hcT (by simp), ?_⟩
        have q_c2_12a314 := k_02b310.trans k_12a314
        refine heads3 (hbT.keepB K_12a314 (by simp)) (haT.keepB K_12a314 (by simp)) o_12a314.sl fun b_22a319 w_22a319 o_22a319 k_22a319 => ?_
        simp only [OpS_slice]
        have K_22a319 := K_12a314.trans k_22a319
        refine ⟨K_22a319.has hcT (by simp), ?_⟩
        have q_c2_22a319 := q_c2_12a314.trans k_22a319
        have q_h2_22a319 := k_12a314.trans k_22a319
        refine dirty_L o_22a319 (all := rb ++ ra ++ [c]) (by simp) (by omega) (by simp; omega) fun p_32a325 l_32a325 c_32a325 r_32a325 w_32a325 L_32a325 o_32a325 k_32a325 => ?_
        simp only [OpS_slice]
        have K_32a325 := K_22a319.trans k_32a325
        refine ⟨K_32a325.has hcT (by simp), ?_⟩
        have q_c2_32a325 := q_c2_22a319.trans k_32a325
        have q_h2_32a325 := q_h2_22a319.trans k_32a325
        have q_c1_32a325 := k_22a319.trans k_32a325
        refine dirty_L (o_02b310.keepB q_h2_32a325 (by simp)) (all := c :: (rb ++ ra)) (by simp) (by omega) (by simp; omega) fun p_33b332 l_33b332 c_33b332 r_33b332 w_33b332 L_33b332 o_33b332 k_33b332 => ?_
        simp only [OpS_slice]
        have K_33b332 := K_32a325.trans k_33b332
        refine ⟨K_33b332.has hcT (by simp), ?_⟩
        have q_c2_33b332 := q_c2_32a325.trans k_33b332
        have q_h2_33b332 := q_h2_32a325.trans k_33b332
        have q_c1_33b332 := q_c1_32a325.trans k_33b332
        have q_h1_33b332 := k_32a325.trans k_33b332
        have e1 := left_ends ck L_32a325 L_33b332
        refine same_recsD (o_32a325.keep k_33b332 (by simp)).sl o_33b332.sl (Nat.le_trans o_32a325.cap.1 o_32a325.cap.2) (L_32a325.ok obac) (L_33b332.ok ocba) fun g d hg => ?_
        have hgt : g = true := hg.2 e1
        subst hgt
        simp only [OpB_bool, Ret_nil]
        have kd : Keep (fun _ => False) w_33b332 (w_33b332.dr d) := Keep.drew _ _ _
        exact ⟨(K_33b332.trans kd).has hcT (by simp), trivial, (kT.trans (K_33b332.trans kd)).below⟩
end Go.Proofs
