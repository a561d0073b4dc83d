/-
  CachePlays, the walk: the program's cache and the document's, step by step.
-/
import Derived.Test.YtacnieopbkeoiaaRef11b
import Derived.Test.YtacnieopbkeoiaaDirties
import Derived.Test.YtacnieopbkeoiaaLast
import Derived.Test.YtacnieopbkeoiaaFPlays
namespace Go.Proofs
open Go Go.Ev Go.RowKit
set_option linter.unusedSimpArgs false
set_option linter.unusedVariables false
set_option maxRecDepth 100000

/-! ### entries and records -/
/-- the records are those of the entries, in their order -/
def Rel (es : List (Int × Ent)) (rs : List Rec) : Prop := rs.Perm (es.map recOf) ∧ ByVer rs
theorem keys_lbas (es : List (Int × Ent)) : (es.map recOf).map (·.lba) = es.map (·.1) := by rw [List.map_map]; rfl
section rel
variable {es : List (Int × Ent)} {rs : List Rec} (x : Int)
theorem Rel.lbas (h : Rel es rs) (hn : (es.map (·.1)).Nodup) : (rs.map (·.lba)).Nodup := by
  have := h.1.map (·.lba)
  rw [keys_lbas] at this
  exact this.nodup_iff.2 hn
theorem Rel.len (h : Rel es rs) : rs.length = es.length := by simpa using h.1.length_eq
theorem Rel.none (h : Rel es rs) (hn : (es.map (·.1)).Nodup) (hl : mlook es x = none) : idxR rs x = none := by
  cases hi : idxR rs x with
  | none => rfl
  | some i =>
    obtain ⟨r, hr, hrl⟩ := idx_some hi
    obtain ⟨p, hp, rfl⟩ := List.mem_map.1 (h.1.subset (List.mem_of_getElem? hr))
    have : mlook es x = some p.2 := mem_mlook hn (by rw [← hrl]; exact hp)
    rw [hl] at this; cases this
theorem Rel.some (h : Rel es rs) (hn : (es.map (·.1)).Nodup) {e : Ent} (hl : mlook es x = some e) : ∃ i, idxR rs x = some i ∧ rs[i]? = some (recOf (x, e)) := by
  have hm : recOf (x, e) ∈ rs := h.1.symm.subset (List.mem_map.2 ⟨(x, e), mlook_mem hl, rfl⟩)
  cases hi : idxR rs x with
  | none => exact absurd rfl (idx_none hi _ hm)
  | some i =>
    obtain ⟨r, hr, hrl⟩ := idx_some hi
    refine ⟨i, rfl, ?_⟩
    rw [hr, eq_of_lbas (h.lbas hn) (List.mem_of_getElem? hr) hm hrl]
theorem del_perm (hn : (es.map (·.1)).Nodup) {e : Ent} (hl : mlook es x = some e) : es.Perm ((x, e) :: del es x) := by
  induction es with
  | nil => simp [mlook] at hl
  | cons p es ih =>
    simp only [List.map_cons, List.nodup_cons] at hn
    unfold mlook at hl
    unfold del
    rw [List.find?_cons] at hl
    rw [List.filter_cons]
    by_cases hp : p.1 = x
    · have hb : (p.1 == x) = true := by simpa using hp
      rw [hb] at hl ⊢
      simp only [Option.map_some, Option.some.injEq] at hl
      subst hl hp
      have : es.filter (fun q => !(q.1 == p.1)) = es := by
        apply List.filter_eq_self.2
        intro q hq
        simp only [Bool.not_eq_true', beq_eq_false_iff_ne]
        exact fun e => hn.1 (List.mem_map.2 ⟨q, hq, e⟩)
      simp [this]
    · have hb : (p.1 == x) = false := by simpa using hp
      rw [hb] at hl ⊢
      have := ih hn.2 hl
      simp only [Bool.not_false, if_true]
      exact (this.cons p).trans (List.Perm.swap _ _ _)
theorem del_none (hl : mlook es x = none) : del es x = es := by
  unfold del
  apply List.filter_eq_self.2
  intro q hq
  simp only [Bool.not_eq_true', beq_eq_false_iff_ne]
  intro e
  unfold mlook at hl
  rw [Option.map_eq_none_iff, List.find?_eq_none] at hl
  exact hl q hq (by simpa using e)
theorem ins_perm (hn : (es.map (·.1)).Nodup) (v : Ent) : (ins es x v).Perm (del es x ++ [(x, v)]) := by
  unfold ins
  by_cases ha : es.any (fun p => p.1 == x) = true
  · rw [if_pos ha]
    have : ∀ es : List (Int × Ent), (es.map (·.1)).Nodup → es.any (fun p => p.1 == x) = true → (es.map (fun p => if p.1 == x then (x, v) else p)).Perm (del es x ++ [(x, v)]) := by
      intro es
      induction es with
      | nil => intro _ h; simp at h
      | cons p es ih =>
        intro hn ha
        simp only [List.map_cons, List.nodup_cons] at hn
        unfold del
        rw [List.map_cons, List.filter_cons]
        by_cases hp : p.1 = x
        · have hb : (p.1 == x) = true := by simpa using hp
          rw [hb]
          have e1 : es.filter (fun q => !(q.1 == x)) = es := by
            apply List.filter_eq_self.2
            intro q hq
            simp only [Bool.not_eq_true', beq_eq_false_iff_ne]
            exact fun e => hn.1 (List.mem_map.2 ⟨q, hq, e.trans hp.symm⟩)
          have e2 : es.map (fun p => if p.1 == x then (x, v) else p) = es := by
            conv => rhs; rw [← List.map_id es]
            apply List.map_congr_left
            intro q hq
            have : (q.1 == x) = false := by
              rw [beq_eq_false_iff_ne]
              exact fun e => hn.1 (List.mem_map.2 ⟨q, hq, e.trans hp.symm⟩)
            simp [this]
          simp only [if_true, Bool.not_true, Bool.false_eq_true, if_false]
          rw [e1, e2]
          exact (List.perm_append_singleton _ _).symm
        · have hb : (p.1 == x) = false := by simpa using hp
          rw [hb]
          simp only [Bool.false_eq_true, if_false, Bool.not_false, if_true, List.cons_append]
          refine List.Perm.cons p (ih hn.2 ?_)
          simpa [hb] using ha
    exact this es hn ha
  · rw [if_neg ha]
    have : mlook es x = Option.none := by
      unfold mlook
      rw [Option.map_eq_none_iff, List.find?_eq_none]
      intro q hq hb
      exact ha (List.any_eq_true.2 ⟨q, hq, hb⟩)
    rw [del_none x this]
theorem Rel.out (h : Rel es rs) (hn : (es.map (·.1)).Nodup) : (outR rs x).Perm ((del es x).map recOf) := by
  unfold outR
  cases hl : mlook es x with
  | none =>
    rw [h.none x hn hl, del_none x hl]
    exact h.1
  | some e =>
    obtain ⟨i, hi, hg⟩ := h.some x hn hl
    rw [hi]
    simp only
    have hlt := (List.getElem?_eq_some_iff.1 hg)
    have p1 : rs.Perm (recOf (x, e) :: rs.eraseIdx i) := by
      have : rs = rs.take i ++ recOf (x, e) :: rs.drop (i + 1) := by rw [← hlt.2]; simp
      rw [List.eraseIdx_eq_take_drop_succ]
      conv => lhs; rw [this]
      exact List.perm_middle
    have p2 := (del_perm x hn hl).map recOf
    exact List.Perm.cons_inv (p1.symm.trans (h.1.trans p2))
theorem Rel.put (h : Rel es rs) (hn : (es.map (·.1)).Nodup) {f : Sec} {ver : Int} {rs' : List Rec} (hp : rs'.Perm (outR rs x ++ [⟨1, ver, x, f⟩])) (hb : ByVer rs') : Rel (ins es x (f, ver)) rs' := by
  refine ⟨?_, hb⟩
  have p1 := (ins_perm x hn (f, ver)).map recOf
  rw [List.map_append] at p1
  exact (hp.trans ((h.out x hn).append_right _)).trans p1.symm
theorem Rel.del (h : Rel es rs) (hn : (es.map (·.1)).Nodup) : Rel (del es x) (outR rs x) := by
  refine ⟨h.out x hn, ?_⟩
  unfold outR
  split
  · exact h.2.sublist (List.eraseIdx_sublist _ _)
  · exact h.2
theorem Rel.putE (h : Rel es rs) (hn : (es.map (·.1)).Nodup) {room ver : Int} : putR room rs x ver = putE room es x ver := by
  unfold putR Go.Proofs.putE
  rw [h.len]
  split
  · rfl
  · cases hl : mlook es x with
    | none => rw [h.none x hn hl]
    | some e =>
      obtain ⟨i, hi, hg⟩ := h.some x hn hl
      rw [hi]
      simp [List.getD, hg, recOf]
theorem Rel.cleanE (h : Rel es rs) (hn : (es.map (·.1)).Nodup) {ver : Int} : cleanR rs x ver = cleanE es x ver := by
  unfold cleanR Go.Proofs.cleanE
  cases hl : mlook es x with
  | none => rw [h.none x hn hl]
  | some e =>
    obtain ⟨i, hi, hg⟩ := h.some x hn hl
    rw [hi]
    simp [List.getD, hg, recOf]
theorem Rel.same {ss : List Rec} (h : Rel es rs) (hn : (es.map (·.1)).Nodup) (hp : ss.Perm (es.map recOf)) (hb : ByVer ss) : ss = rs :=
  byver_eq hb h.2 (hp.trans h.1.symm) (by have := hp.map (·.lba); rw [keys_lbas] at this; exact this.nodup_iff.2 hn)
theorem Rel.first (h : Rel es rs) (hn : (es.map (·.1)).Nodup) {p : Int × Ent} (hp : p ∈ es) (hm : ∀ q ∈ es, ¬ cmpR (recOf q) (recOf p) < 0) : rs[0]? = Option.some (recOf p) := by
  have hpr : recOf p ∈ rs := h.1.symm.subset (List.mem_map.2 ⟨p, hp, rfl⟩)
  cases hrs : rs with
  | nil => rw [hrs] at hpr; simp at hpr
  | cons r rest =>
    rw [hrs] at hpr
    have hr : r ∈ rs := by rw [hrs]; simp
    obtain ⟨q, hq, hqe⟩ := List.mem_map.1 (h.1.subset hr)
    have h1 := hm q hq
    rw [hqe] at h1
    rcases List.mem_cons.1 hpr with e | hm2
    · rw [e]; rfl
    · have h2 := h.2
      rw [hrs] at h2
      have h3 := (List.pairwise_cons.1 h2).1 _ hm2
      simp only [cmpR_lt] at h1 h3
      have : r.lba = (recOf p).lba := by omega
      have := eq_of_lbas (h.lbas hn) hr (by rw [hrs]; exact List.mem_cons_of_mem _ hm2) this
      rw [this]; rfl
end rel

/-! ### both caches -/
structure BothC (W w : World) (c m b : Nat) (room : Int) (es : List (Int × Ent)) (rs : List Rec) : Prop where
  ca : CacheAt w c m room es
  ref : ∃ cs, Has w b (.cells cs 57 (0, 0)) ∧ RCa w cs room rs
  rel : Rel es rs
  le : (es.length : Int) ≤ room
  ok : ∀ r ∈ rs, RecOk r
  k : Keep (fun _ => False) W w
  lc : W.heap.size ≤ c
  lm : W.heap.size ≤ m
  lb : W.heap.size ≤ b
section both
variable {W w w' : World} {c m b : Nat} {room : Int} {es es' : List (Int × Ent)} {rs rs' : List Rec}
theorem CacheAt.no (h : CacheAt w c m room es) {k : Nat} {cs : Array Value} {t : TypeId} {f : Nat × Nat} (hk : Has w k (.cells cs t f)) : ¬ k = m := by
  obtain ⟨_, arr, clk, hm, _⟩ := h
  exact hk.ne hm (by simp)
theorem BothC.keep (h : BothC W w c m b room es rs) (k : Keep (fun _ => False) w w') : BothC W w' c m b room es rs := by
  obtain ⟨cs, h1, h2⟩ := h.ref
  exact ⟨h.ca.keep k (by simp) (by simp), ⟨cs, k.has h1 (by simp), h2.keep k⟩, h.rel, h.le, h.ok, h.k.trans k, h.lc, h.lm, h.lb⟩
theorem BothC.prog (h : BothC W w c m b room es rs) (k2 : Keep (fun k => k = m) w w') : (∃ cs, Has w' b (.cells cs 57 (0, 0)) ∧ RCa w' cs room rs) ∧ Keep (fun _ => False) W w' := by
  obtain ⟨cs, h1, h2⟩ := h.ref
  exact ⟨⟨cs, k2.has h1 (h.ca.no h1), h2.keepB k2 fun k cur hk => h.ca.no hk⟩, h.k.trans' k2 fun k hk e => by have := h.lm; omega⟩
theorem BothC.done {cs cs' : Array Value} (hc : CacheAt w c m room es) (hb : Has w b (.cells cs 57 (0, 0))) (hs : cs.size = 2) (hr : RCa w cs' room rs) (rel : Rel es rs) (le : (es.length : Int) ≤ room) (ok : ∀ r ∈ rs, RecOk r) (hk : Keep (fun _ => False) W w)
    (lc : W.heap.size ≤ c) (lm : W.heap.size ≤ m) (lb : W.heap.size ≤ b) {K : World → Prop} (hK : ∀ w', BothC W w' c m b room es rs → Keep (fun k => k = b) w w' → K w') : StA 2 b 0 cs' w K := by
  refine StA_all hb hr.size hs hr.one ?_
  have k1 := Keep.one w b (.cells cs' 57)
  refine hK _ ⟨hc.keep k1 ?_ ?_, ⟨cs', hb.upd_same _, hr.keepB k1 fun k cur hk e => ?_⟩, rel, le, ok, hk.trans' k1 (fun k h e => by omega), lc, lm, lb⟩ k1
  · intro e; subst e; have := hc.1.inj hb; simp only [Obj.cells.injEq] at this; exact absurd this.2.1 (by decide)
  · exact fun e => hc.no hb e.symm
  · subst e; have := hk.inj hb; simp only [Obj.cells.injEq] at this; exact absurd this.2.1 (by decide)
end both
theorem RecOk.of_ins {es : List (Int × Ent)} {rs rs' : List Rec} {x ver : Int} {f : Sec} (hn : ∀ r ∈ rs, RecOk r) (hx : -9223372036854775808 ≤ x ∧ x ≤ 9223372036854775807) (hv : 0 ≤ ver ∧ ver ≤ 18446744073709551615) (hf : SecOk f) (hp : rs'.Perm (outR rs x ++ [⟨1, ver, x, f⟩])) : ∀ r ∈ rs', RecOk r := by
  intro r hr
  rcases List.mem_append.1 (hp.subset hr) with h | h
  · refine hn r ?_
    unfold outR at h
    split at h
    · exact (List.eraseIdx_sublist _ _).subset h
    · exact h
  · have : r = ⟨1, ver, x, f⟩ := by simpa using h
    rw [this]
    exact ⟨⟨by show _ ≤ (1 : Int); omega, by show (1 : Int) ≤ _; omega⟩, hv, hx, hf⟩

structure POp where
  kind : Int
  lba : Int
  ver : Int
  data : Sec
instance : Inhabited POp := ⟨⟨0, 0, 0, fun _ => 0⟩⟩
def popL (o : POp) : List Value := .int .i64 o.kind :: .int .i64 o.lba :: .int .u64 o.ver :: (secV o.data).toList
def popLay : Lay POp := ⟨19, popL, fun o => rfl, fun o v hv => by
  simp only [popL, List.mem_cons] at hv
  rcases hv with rfl | rfl | rfl | hv
  · rfl
  · rfl
  · rfl
  · exact one_secV _ v hv, by decide⟩
def POpOk (o : POp) : Prop := (-9223372036854775808 ≤ o.lba ∧ o.lba ≤ 9223372036854775807) ∧ (0 ≤ o.ver ∧ o.ver ≤ 18446744073709551615) ∧ SecOk o.data
theorem zc_pop : (zc Try.prog 59).size = 19 := by kernel_rfl

theorem length_ins_le {es : List (Int × Ent)} {room lba ver : Int} {f : Sec} (h : (es.length : Int) ≤ room) (he : putE room es lba ver = 0) : ((ins es lba (f, ver)).length : Int) ≤ room := by
  rw [length_ins]
  unfold putE at he
  split at he
  · omega
  · cases hl : mlook es lba with
    | none =>
      rw [hl] at he
      simp only at he
      have : ¬ room ≤ (es.length : Int) := fun h => by rw [if_pos h] at he; omega
      simp; omega
    | some e => simpa using h
theorem length_del_le {es : List (Int × Ent)} {room lba : Int} (h : (es.length : Int) ≤ room) : ((del es lba).length : Int) ≤ room := by
  have : (del es lba).length ≤ es.length := List.length_filter_le _ _
  omega

set_option maxHeartbeats 2000000 in
theorem cache_plays_walk {room : Int} {sp : Option Addr} {sl sc : Nat} {os : List POp} {W : World} (hs : SlL popLay W sp sl os) (hok : ∀ o ∈ os, POpOk o) (hl : sl ≤ 1048576) :
    CallV Try.prog 8 #[.int .i64 room, .slice sp sl sc] W fun v w' => v = .bool true ∧ Below W.heap.size W w' := by
  apply C_ravelinlaw11_CachePlays
  unfold F_ravelinlaw11_CachePlays
  refine law11_awake fun w1 k1 => ?_
  simp only [OpB_bool, Bool.not_true, Cb_false]
  by_cases hr : room < 1 ∨ 64 < room
  · refine cache_New_bad hr ?_
    simp only [T2_mk, OpP_none, OpI_int]
    refine ⟨by trivial, by trivial, ?_⟩
    have : (cond (decide (room < 1)) true (decide (room > 64))) = true := by
      rcases hr with h | h
      · simp [h]
      · cases hd : decide (room < 1) <;> simp [h]
    rw [this, Cb_true]
    refine ⟨by trivial, by trivial, ?_⟩
    simp only [Ret_nil]
    exact ⟨by trivial, k1.below⟩
  · have hr1 : 1 ≤ room := by omega
    have hr2 : room ≤ 64 := by omega
    refine cache_New hr1 hr2 fun c m w2 hc2 k2 lc lm => ?_
    simp only [T2_mk, OpP_some, OpI_int]
    refine ⟨by trivial, by trivial, ?_⟩
    have e0 : (cond (decide (room < 1)) true (decide (room > 64))) = false := by
      have a1 : decide (room < 1) = false := by simp; omega
      have a2 : decide (room > 64) = false := by simp; omega
      rw [a1, a2]; rfl
    rw [e0, Cb_false]
    refine ⟨by trivial, by trivial, ?_⟩
    rw [show (cond ((0 : Int) != 0) true false) = false from rfl, Cb_false]
    refine DoQ_of (v := .agg (rcaV room none 0 0)) (fun d => run_build _ _ _ _ (by kernel_rfl)) ?_
    simp only [OpA_agg]
    refine ⟨rfl, copy_of (K := fun b w => _) zc_ca rfl (rca_one _ _ _ _) fun w4 hb4 k4 _ => ?_⟩
    have k14 := (k1.trans k2).trans k4
    have hB4 : BothC W w4 c m w2.heap.size room [] [] := ⟨hc2.keep k4 (by simp) (by simp), ⟨_, hb4, none, 0, 0, rfl, SlT.nil (by simp)⟩, ⟨List.Perm.refl _, List.Pairwise.nil⟩, by simp; omega, by simp, k14,
      by have := k1.size; omega, by have := k1.size; omega, by have := (k1.trans k2).size; omega⟩
    generalize w2.heap.size = b at *
    refine LoopC_of (σ := Int × Unit) (fun s w' => ∃ (j : Nat) (es : List (Int × Ent)) (rs : List Rec), s.1 = j ∧ j ≤ sl ∧ BothC W w' c m b room es rs) (fun s _ => (sl - s.1).toNat) ⟨0, _, _, rfl, by omega, hB4⟩ ?_
    clear hB4 k14 hb4
    intro _ s w5 hI
    obtain ⟨j, u⟩ := s
    obtain ⟨j, es, rs, hj, hjl, hB⟩ := hI
    simp only at hj ⊢
    subst hj
    refine Cb_of (fun hc => ?_) (fun hc => ?_)
    · have hj : j < sl := by simp only [decide_eq_true_eq] at hc; omega
      have ew : IntKind.wrap .i64 ((j : Int) + 1) = ((j + 1 : Nat) : Int) := by rw [wrapI (by omega) (by omega)]; omega
      rw [ew]
      have hjo : j < os.length := by rw [← hs.1]; exact hj
      have g : os[((j : Nat) : Int).toNat]? = some os[j] := by rw [Int.toNat_natCast]; simp [hjo]
      have go := hok os[j] (List.getElem_mem _)
      generalize os[j] = o at *
      refine (hs.keepB hB.k (by simp)).ldA rfl (by omega) g ?_
      refine copy_of (K := fun b2 w => _) zc_pop rfl (popLay.one o) fun w6 h2 k6 _ => ?_
      have h2 : Has w6 w5.heap.size (.cells (popL o).toArray 59 (0, 0)) := h2
      have hB6 := hB.keep k6
      have hn := hB6.ca.nodup
      have hlen : es.length ≤ 64 := by have := hB6.le; omega
      have hrl := hB6.rel.len
      generalize w5.heap.size = b2 at *
      have ldD : ∀ {w' : World} {K : Array Value → Prop}, Has w' b2 (.cells (popL o).toArray 59 (0, 0)) → K (secV o.data) → LdA 16 b2 3 (At w') K := fun h hK => LdA_has (cs := secV o.data) h (Nat.le_refl 19) rfl hK
      refine LdV_has (v := .int .i64 o.kind) h2 rfl ?_
      simp only [OpI_int]
      refine ⟨fun s w => s.1 = s.2.1 ∧ ∃ es' rs', BothC W w c m b room es' rs', ?_, ?_⟩
      · refine Cb_of (fun _ => ?_) (fun _ => ?_)
        · -- Put
          refine LdV_has (v := .int .i64 o.lba) h2 rfl ?_
          simp only [OpI_int]
          refine ldD h2 ?_
          refine LdV_has (v := .int .u64 o.ver) h2 rfl ?_
          simp only [OpI_int]
          refine cache_Put hB6.ca fun w7 k7 hc7 => ?_
          simp only [OpI_int]
          obtain ⟨⟨cs7, hb7, hrc7⟩, kW⟩ := hB6.prog k7
          have h27 := k7.has h2 (hB6.ca.no h2)
          refine LdA_all hb7 hrc7.size ?_
          refine LdV_has (v := .int .i64 o.lba) h27 rfl ?_
          simp only [OpI_int]
          refine ldD h27 ?_
          refine LdV_has (v := .int .u64 o.ver) h27 rfl ?_
          simp only [OpI_int]
          have epe := hB6.rel.putE o.lba hn (room := room) (ver := o.ver)
          refine ref_Put hrc7 (by omega) (fun cs8 w8 hx hr8 k8 => ?_) (fun cs8 w8 rs8 hx hp8 hv8 hr8 k8 => ?_)
          · simp only [T2_mk, OpI_int, OpA_agg]
            rw [epe] at hx
            rw [if_neg hx] at hc7
            refine ⟨hr8.size, BothC.done (hc7.keep k8 (by simp) (by simp)) (k8.has hb7 (by simp)) hrc7.size hr8 hB6.rel hB6.le hB6.ok (kW.trans k8) hB6.lc hB6.lm hB6.lb fun w9 hB9 k9 => ⟨epe.symm, es, rs, hB9⟩⟩
          · simp only [T2_mk, OpI_int, OpA_agg]
            rw [epe] at hx
            rw [if_pos hx] at hc7
            refine ⟨hr8.size, BothC.done (hc7.keep k8 (by simp) (by simp)) (k8.has hb7 (by simp)) hrc7.size hr8 (hB6.rel.put o.lba hn hp8 hv8) (length_ins_le hB6.le hx) (RecOk.of_ins (es := es) hB6.ok go.1 go.2.1 go.2.2 hp8) (kW.trans k8) hB6.lc hB6.lm hB6.lb fun w9 hB9 k9 => ⟨hx, _, _, hB9⟩⟩
        refine Cb_of (fun _ => ?_) (fun _ => ?_)
        · -- Clean
          refine LdV_has (v := .int .i64 o.lba) h2 rfl ?_
          simp only [OpI_int]
          refine LdV_has (v := .int .u64 o.ver) h2 rfl ?_
          simp only [OpI_int]
          refine cache_Clean hB6.ca fun w7 k7 hc7 => ?_
          simp only [OpI_int]
          obtain ⟨⟨cs7, hb7, hrc7⟩, kW⟩ := hB6.prog k7
          have h27 := k7.has h2 (hB6.ca.no h2)
          refine LdA_all hb7 hrc7.size ?_
          refine LdV_has (v := .int .i64 o.lba) h27 rfl ?_
          simp only [OpI_int]
          refine LdV_has (v := .int .u64 o.ver) h27 rfl ?_
          simp only [OpI_int]
          have epe := hB6.rel.cleanE o.lba hn (ver := o.ver)
          refine ref_Clean hrc7 (by omega) (fun cs8 w8 hx hr8 k8 => ?_) (fun cs8 w8 hx hr8 k8 => ?_)
          · simp only [T2_mk, OpI_int, OpA_agg]
            rw [epe] at hx
            rw [if_neg hx] at hc7
            refine ⟨hr8.size, BothC.done (hc7.keep k8 (by simp) (by simp)) (k8.has hb7 (by simp)) hrc7.size hr8 hB6.rel hB6.le hB6.ok (kW.trans k8) hB6.lc hB6.lm hB6.lb fun w9 hB9 k9 => ⟨epe.symm, es, rs, hB9⟩⟩
          · simp only [T2_mk, OpI_int, OpA_agg]
            rw [epe] at hx
            rw [if_pos hx] at hc7
            refine ⟨hr8.size, BothC.done (hc7.keep k8 (by simp) (by simp)) (k8.has hb7 (by simp)) hrc7.size hr8 (hB6.rel.del o.lba hn) (length_del_le hB6.le) (fun r hr => hB6.ok r ?_) (kW.trans k8) hB6.lc hB6.lm hB6.lb fun w9 hB9 k9 => ⟨hx, _, _, hB9⟩⟩
            unfold outR at hr
            split at hr
            · exact (List.eraseIdx_sublist _ _).subset hr
            · exact hr
        refine Cb_of (fun _ => ?_) (fun _ => ?_)
        · -- Get
          refine LdV_has (v := .int .i64 o.lba) h2 rfl ?_
          simp only [OpI_int]
          refine cache_Get hB6.ca fun w7 k7 => ?_
          have hB7 := hB6.keep k7
          have h27 := k7.has h2 (by simp)
          have fin : ∀ (f : Sec) (v e : Int), SecOk f → (getRV rs o.lba = .tuple #[.agg (secV f), .int .u64 v, .int .i64 e]) →
              ∀ (b3 : Nat) (K : Int → Int → World → Prop), (∀ w', BothC W w' c m b room es rs → K e e w') → Alc 31 (zc Try.prog 31) w7 fun b3 w => StA 16 b3 0 (secV f) w fun w => LdA 2 b 0 (At w) fun cs9 => LdV b2 1 (At w) fun v27 => OpI .i64 v27 fun n17 =>
                CallV Try.prog 30 #[.agg cs9, .int .i64 n17] w fun v28 w => T3 v28 fun v29 v30 v31 => OpA 16 v29 fun cs10 => OpI .u64 v30 fun n18 => OpI .i64 v31 fun n19 =>
                Alc 31 (zc Try.prog 31) w fun b4 w => StA 16 b4 0 cs10 w fun w => LdA 16 b3 0 (At w) fun cs11 => LdA 16 b4 0 (At w) fun cs12 => EqB Try.prog .neq 31 (.tmp 115) (.tmp 116) (.agg cs11 : Value) (.agg cs12 : Value) (At w) fun g1 =>
                Req True (Req True (Req True (Cb (cond g1 true (v != n18)) (Ret [] (Value.bool false = .bool true ∧ Below W.heap.size W w)) (K e n19 w)))) := by
            intro f v e hf hm _ K hK
            refine copy_of (K := fun b3 w => _) (by rw [zc_sec]; rfl) rfl (one_secV _) fun w8 hb8 k8 hz8 => ?_
            have hB8 := hB7.keep k8
            obtain ⟨cs8, hbb, hrc8⟩ := hB8.ref
            refine LdA_all hbb hrc8.size ?_
            refine LdV_has (v := .int .i64 o.lba) (k8.has h27 (by simp)) rfl ?_
            simp only [OpI_int]
            refine ref_Get hrc8 (by omega) fun w9 k9 => ?_
            rw [hm]
            simp only [T3_mk, OpA_agg, OpI_int]
            refine ⟨rfl, copy_of (K := fun b4 w => _) (by rw [zc_sec]; rfl) rfl (one_secV _) fun w10 hb10 k10 hz10 => ?_⟩
            refine LdA_all (k10.has (k9.has hb8 (by simp)) (by simp)) rfl ?_
            refine LdA_all hb10 rfl ?_
            refine EqB_sec_ne hf hf fun r hr => ?_
            have hrf : r = false := by cases r; rfl; exact absurd rfl (hr.1 rfl)
            subst hrf
            refine ⟨trivial, trivial, trivial, ?_⟩
            rw [cond_false, show (v != v) = false by simp, Cb_false]
            exact hK w10 ((hB8.keep k9).keep k10)
          cases hl : mlook es o.lba with
          | none =>
            simp only [T3_mk, OpA_agg, OpI_int]
            refine ⟨rfl, fin (sec []) 0 10 (sec_ok (l := []) (fun x hx => by cases hx)) (by unfold getRV; rw [hB6.rel.none _ hn hl]) 0 (fun x y w => x = y ∧ ∃ es' rs', BothC W w c m b room es' rs') fun w' hB' => ⟨rfl, es, rs, hB'⟩⟩
          | some e =>
            obtain ⟨i, hi, hg⟩ := hB6.rel.some _ hn hl
            have hre : RecOk (recOf (o.lba, e)) := hB6.ok _ (List.mem_of_getElem? hg)
            simp only [T3_mk, OpA_agg, OpI_int]
            refine ⟨rfl, fin e.1 e.2 0 hre.2.2.2 (by unfold getRV; rw [hi]; simp only [List.getD, hg, Option.getD_some]; rfl) 0 (fun x y w => x = y ∧ ∃ es' rs', BothC W w c m b room es' rs') fun w' hB' => ⟨rfl, es, rs, hB'⟩⟩
        refine Cb_of (fun _ => ?_) (fun _ => ?_)
        · -- Next
          refine cache_Next hB6.ca (by omega) (fun w7 hes k7 => ?_) (fun p w7 hp hmin k7 => ?_)
          · simp only [T2_mk, OpA_agg, OpI_int]
            refine ⟨rfl, copy_of (K := fun b5 w => _) (by rw [zc_rec']; rfl) rfl (one_recV' _) fun w8 hb8 k8 _ => ?_⟩
            have hB8 := (hB6.keep k7).keep k8
            obtain ⟨cs8, hbb, p8, l8, c8, rfl, hs8⟩ := hB8.ref
            have hrs : rs = [] := List.eq_nil_of_length_eq_zero (by rw [hrl, hes]; rfl)
            have hl8 : l8 = 0 := by have := hs8.len; rw [hrs] at this; exact this
            subst hl8
            refine LdV_has (v := .slice p8 0 c8) hbb rfl ?_
            simp only [OpS_slice]
            rw [show (!(((10 : Int) == 10) == (((0 : Nat) : Int) == 0))) = false from rfl, Cb_false, show ((10 : Int) == 0) = false from rfl, Cb_false, show ((10 : Int) != 0) = true from rfl, Cb_true, show ((10 : Int) != 10) = false from rfl, Cb_false]
            refine LdA_all hb8 rfl ?_
            refine DoQ_of (fun d => bld_rec00 _) ?_
            simp only [OpA_agg]
            have o0 : RecOk rec00 := ⟨⟨by show _ ≤ (0 : Int); omega, by show (0 : Int) ≤ _; omega⟩, ⟨by show (0 : Int) ≤ 0; omega, by show (0 : Int) ≤ _; omega⟩, ⟨by show _ ≤ (0 : Int); omega, by show (0 : Int) ≤ _; omega⟩, sec_ok (l := []) (fun x hx => by cases hx)⟩
            refine ⟨rfl, EqB_rec_ne o0 o0 fun r hr d => ?_⟩
            have hrf : r = false := by cases r; rfl; exact absurd rfl (hr.1 rfl)
            subst hrf
            simp only [Cb_false]
            exact ⟨trivial, es, rs, hB8.keep (Keep.drew _ _ _)⟩
          · simp only [T2_mk, OpA_agg, OpI_int]
            refine ⟨rfl, copy_of (K := fun b5 w => _) (by rw [zc_rec']; rfl) rfl (one_recV' _) fun w8 hb8 k8 _ => ?_⟩
            have hB8 := (hB6.keep k7).keep k8
            obtain ⟨cs8, hbb, p8, l8, c8, rfl, hs8⟩ := hB8.ref
            have hg := hB6.rel.first hn hp hmin
            have hl8 : 0 < l8 := by have := hs8.len; have := (List.getElem?_eq_some_iff.1 hg).1; omega
            refine LdV_has (v := .slice p8 l8 c8) hbb rfl ?_
            simp only [OpS_slice]
            have el : (((l8 : Nat) : Int) == 0) = false := by simp; omega
            rw [el, show (!(((0 : Int) == 10) == false)) = false from rfl, Cb_false, show ((0 : Int) == 0) = true from rfl, Cb_true]
            refine LdA_all hb8 rfl ?_
            refine LdV_has (v := .slice p8 l8 c8) hbb rfl ?_
            simp only [OpS_slice]
            refine hs8.ldA (i := 0) (x := recOf p) rfl (by decide) hg ?_
            have hre : RecOk (recOf p) := hB6.ok _ (List.mem_of_getElem? hg)
            refine EqB_rec_ne hre hre fun r hr => ?_
            have hrf : r = false := by cases r; rfl; exact absurd rfl (hr.1 rfl)
            subst hrf
            rw [Cb_false, show ((0 : Int) != 0) = false from rfl, Cb_false]
            intro d
            exact ⟨by trivial, es, rs, hB8.keep (Keep.drew _ _ _)⟩
        exact ⟨by trivial, es, rs, hB6⟩
      · rintro _ ⟨e, f, u⟩ w7 ⟨h1, es', rs', hB7⟩
        simp only at h1 ⊢
        subst h1
        obtain ⟨cs7, hb7, hrc7⟩ := hB7.ref
        obtain ⟨p7, l7, c7, hcs, hs7⟩ := id hrc7
        have hn7 := hB7.ca.nodup
        have hlen7 : es'.length ≤ 64 := by have := hB7.le; omega
        have hrl7 := hB7.rel.len
        intro d
        have kd := Keep.drew (fun _ => False) w7 d
        refine ⟨fun w' => Has w' b (.cells cs7 57 (0, 0)), hb7, ?_⟩
        subst hcs
        rw [show (e != e) = false by simp, Cb_false]
        refine LdV_of (v := .slice p7 l7 c7) (fun w' hw => ⟨_, _, _, hw, rfl⟩) ?_
        simp only [OpS_slice]
        refine cache_List (hB7.keep kd).ca (by omega) fun p8 l8 c8 ss w8 hp8 hb8 ho8 k8 => ?_
        have ho8 : OwnL recLay w8 (w7.dr d).heap.size 42 p8 l8 c8 ss := ho8
        simp only [OpS_slice]
        have kd8 := kd.trans k8
        refine ⟨kd8.has hb7 (by simp), ?_⟩
        have ess := hB7.rel.same hn7 hp8 hb8
        subst ess
        refine same_recsD ho8.sl (hs7.keepB kd8 (by simp)).sl (Nat.le_trans ho8.cap.1 ho8.cap.2) hB7.ok hB7.ok fun g d9 hg => ?_
        have hgt : g = true := hg.2 rfl
        subst hgt
        simp only [OpB_bool]
        have kd9 : Keep (fun _ => False) w7 (w8.dr d9) := kd8.dr d9
        refine ⟨kd9.has hb7 (by simp), ?_⟩
        rw [show (!true) = false from rfl, Cb_false]
        refine LdV_of (v := .slice p7 l7 c7) (fun w' hw => ⟨_, _, _, hw, rfl⟩) ?_
        simp only [OpS_slice]
        refine cache_Len (hB7.keep kd9).ca ?_
        simp only [OpI_int]
        refine ⟨kd9.has hb7 (by simp), ?_⟩
        have el : (((es'.length : Nat) : Int) != ((l7 : Nat) : Int)) = false := by rw [hs7.len, hrl7]; simp
        rw [el, Cb_false]
        refine LdV_of (v := .slice p7 l7 c7) (fun w' hw => ⟨_, _, _, hw, rfl⟩) ?_
        simp only [OpS_slice]
        refine cache_Full (hB7.keep kd9).ca fun d10 => ?_
        simp only [OpB_bool]
        have kd10 : Keep (fun _ => False) w7 ((w8.dr d9).dr d10) := kd9.dr d10
        refine ⟨kd10.has hb7 (by simp), ?_⟩
        have ef : (!(decide (room ≤ ((es'.length : Nat) : Int)) == (((l7 : Nat) : Int) == room))) = false := by
          have hle := hB7.le
          have : ((l7 : Nat) : Int) = (es'.length : Int) := by rw [hs7.len, hrl7]
          rw [this]
          by_cases h : room ≤ ((es'.length : Nat) : Int)
          · rw [decide_eq_true h, show (((es'.length : Nat) : Int) == room) = true by simp; omega]; rfl
          · rw [decide_eq_false h, show (((es'.length : Nat) : Int) == room) = false by simp; omega]; rfl
        rw [ef, Cb_false]
        exact ⟨_, by omega, ⟨j + 1, es', ss, rfl, by omega, hB7.keep kd10⟩, rfl⟩
    · simp only [Ret_nil]
      exact ⟨by trivial, hB.k.below⟩
end Go.Proofs
