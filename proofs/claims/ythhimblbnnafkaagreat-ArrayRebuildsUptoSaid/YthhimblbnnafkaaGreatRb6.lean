/-
  SEVERAL TEXTS IN ONE, what is not leaned on left out: Lift2, Args9, ArrL, FSteps20, ArrSt, ArrV2, ArrR, ArrP, ArrStW, FReb20, RebW, ArrayRebuildsL.
-/
import Derived.Test.YthhimblbnnafkaaGreatRb5
import Derived.Test.YthhimblbnnafkaaGreatChecked
namespace Go.Proofs
open Go Go.Ev Go.ChangeShapes Go.WideShapes Go.ChangeAt Go.RowKit
set_option linter.unusedVariables false
set_option linter.unusedSimpArgs false
open Go.Proofs.YthhimblbnnafkaaGreat.Rows (uptoBulk uptoBulkAll uptoBulkEntries uptoSmall)
section
variable {H : Type} {enc : TypeId × Value → H} {P : Program} {w : World} {base : Nat} {spare : Nat → Bool} {held : Bool}
theorem bulk_pos : ∀ d : DataW H, 1 ≤ uptoBulk d
  | .lit l => by cases l <;> simp [uptoBulk]
  | .nil => by simp [uptoBulk]
  | .ptr d => by simp [uptoBulk]
  | .slice e s => by simp [uptoBulk]
  | .agg p => by simp [uptoBulk]
  | .iface _ d => by simp [uptoBulk]
  | .map e => by simp [uptoBulk]
  | .held _ => by simp [uptoBulk]
theorem bulkAll_sum : ∀ l : List (DataW H), uptoBulkAll l = (l.map uptoBulk).sum
  | [] => rfl
  | d :: l => by simp [uptoBulkAll, bulkAll_sum l]
theorem sum_le {α : Type} {f g : α → Nat} : ∀ {l : List α}, (∀ x ∈ l, f x ≤ g x) → (l.map f).sum ≤ (l.map g).sum
  | [], _ => by simp
  | a :: l, h => by
    simp only [List.map_cons, List.sum_cons]
    have := h a (by simp)
    have := sum_le (l := l) fun x hx => h x (by simp [hx])
    omega
theorem bulk_slice (D : Nat → DataW H) (n : Nat) (s : List (DataW H)) (f : Nat → Nat) (h : ∀ i, i < n → f i ≤ uptoBulk (D i)) : ((List.range n).map f).sum + 1 ≤ uptoBulk (.slice ((List.range n).map D) s) := by
  simp only [uptoBulk, bulkAll_sum, List.map_map]
  have := sum_le (l := List.range n) (f := f) (g := uptoBulk ∘ D) fun i hi => h i (List.mem_range.1 hi)
  omega
theorem sum_ones (n : Nat) : ((List.range n).map fun _ => 1).sum = n := by
  induction n with
  | zero => rfl
  | succ n ih => rw [List.range_succ, List.map_append, List.sum_append, ih]; rfl
theorem small_mem {ds : List (DataW H)} (h : uptoSmall H ds = true) {d : DataW H} (hd : d ∈ ds) : uptoBulk d ≤ 1048576 := by
  have h1 : uptoBulkAll ds ≤ 1048576 := by simpa [uptoSmall] using h
  rw [bulkAll_sum] at h1
  have : ∀ l : List (DataW H), d ∈ l → uptoBulk d ≤ (l.map uptoBulk).sum := by
    intro l
    induction l with
    | nil => simp
    | cons a l ih =>
      intro hd
      simp only [List.map_cons, List.sum_cons]
      rcases List.mem_cons.1 hd with rfl | hd
      · omega
      · have := ih hd; omega
  have := this ds hd
  omega
theorem sl_cells {t e : TypeId} {ks : List CK} {fuel : Nat} {cs : List Value} {x : DataW H × List MemPlace} (ht : P.underlying t = some (.slice e)) (hf : flat P 9 e = some ks) (hc : P.cellsOf e = ks.length) (hpos : 0 < ks.length)
    (hfu : DataW.trod enc P w base spare held fuel t cs = some x) :
    ∃ xp l c g, cs = [.slice xp l c] ∧ l ≤ c ∧ c ≤ maxLen ∧ Sl w ks.length xp l g ∧ (∀ i, i < l → Fits ks (g i)) ∧ l + 1 ≤ uptoBulk x.1 := by
  rcases Deep.open_slice ht hfu with ⟨rfl, rfl⟩ | ⟨a, len, cap, m, n, D, Pl, rfl, hb, hl, hm, hmm, rfl, hx⟩
  · exact ⟨none, 0, 0, fun _ => [], rfl, Nat.le_refl _, by simp [maxLen], fun i hi => absurd hi (Nat.not_lt_zero _), fun i hi => absurd hi (Nat.not_lt_zero _), by simp [uptoBulk]⟩
  · have hlm : len ≤ m := by rw [hmm]; split <;> omega
    obtain ⟨g, hg⟩ := Deep.choose_lt (α := List Value) (n := len) (p := fun i es => w.cells? base (a.add (i * P.cellsOf e)) (P.cellsOf e) = some es ∧ Fits ks es) (fun i hi => by
      obtain ⟨es, h1, h2⟩ := hx i (by omega)
      exact ⟨es, h1, fits_of_trod hf h2⟩)
    refine ⟨some a, len, cap, g, rfl, hl, hm, fun i hi => ?_, fun i hi => (hg i hi).2, ?_⟩
    · obtain ⟨h1, h2⟩ := hg i hi
      obtain ⟨_, hlen, hcell⟩ := World.cells?_some h1
      rw [hc] at hlen hcell
      refine ⟨hlen, ?_⟩
      have hsp : a.spot = none := by
        obtain ⟨k1, k2⟩ := hg 0 (by omega)
        obtain ⟨_, klen, kcell⟩ := World.cells?_some k1
        rw [hc] at klen kcell
        have h0 := kcell 0 hpos
        rw [List.getElem?_eq_getElem (by omega)] at h0
        have e0 : (a.add (0 * ks.length)).add 0 = a := by simp [Addr.add]
        rw [e0] at h0
        unfold World.cell? at h0
        split at h0
        · split at h0
          · cases h0
          · rename_i hs
            cases hsa : a.spot with
            | none => rfl
            | some q => exact absurd (by simp [hsa]) hs
        · cases h0
      obtain ⟨b, o, sp⟩ := a
      simp only at hsp
      subst hsp
      refine ⟨b, o, rfl, fun j hj => ?_⟩
      have := hcell j hj
      rw [Deep.add_add] at this
      rw [← this]
      congr 1
      unfold Addr.add
      split
      · rename_i hz; rw [Nat.add_assoc, hz, Nat.add_zero]
      · rw [Nat.add_assoc]
    · have := bulk_slice D len ((List.range (m - len)).map fun j => D (len + j)) (fun _ => 1) (fun i _ => bulk_pos _)
      rw [sum_ones] at this
      exact this
/-- a slice argument, and how long it is -/
theorem sl_openB {t e : TypeId} {ks : List CK} {v : Value} {r : Reach} {b0 : Nat} {dd : DataW H} {ps : List MemPlace} (ht : P.underlying t = some (.slice e)) (hf : flat P 9 e = some ks) (hc : P.cellsOf e = ks.length) (hpos : 0 < ks.length)
    (hval : Value.okWide P w r b0 t v) (hd : DataW.Trod enc P w base spare held t v dd ps) :
    ∃ xp l c g, v = .slice xp l c ∧ l ≤ c ∧ c ≤ maxLen ∧ Sl w ks.length xp l g ∧ (∀ i, i < l → Fits ks (g i)) ∧ l + 1 ≤ uptoBulk dd := by
  obtain ⟨xp, l, c, rfl⟩ := okWide_slice ht hval
  obtain ⟨fuel, hfu⟩ := hd
  obtain ⟨xp', l', c', g, h0, h1, h2, h3, h4, h5⟩ := sl_cells ht hf hc hpos hfu
  simp only [Value.cells, List.cons.injEq, Value.slice.injEq, and_true] at h0
  obtain ⟨rfl, rfl, rfl⟩ := h0
  exact ⟨_, _, _, g, rfl, h1, h2, h3, h4, h5⟩
/-- a slice that is handed in, as a list of elements -/
theorem slL_of {α : Type} {L : Lay α} {n : Nat} {xp : Option Addr} {l : Nat} {g : Nat → List Value} (h : Sl w n xp l g) (hn : L.size = n) {f : Nat → α} (hg : ∀ i, i < l → g i = L.row (f i)) : SlL L w xp l ((List.range l).map f) := by
  subst hn
  refine ⟨by simp, fun i x hi => ?_⟩
  have hlt : i < l := by have := (List.getElem?_eq_some_iff.1 hi).1; simpa using this
  have : x = f i := by simp [hlt] at hi; exact hi.symm
  subst this
  obtain ⟨_, b, o, hp, hc⟩ := h i hlt
  exact ⟨b, o, hp, fun j hj => by rw [hc j hj, hg i hlt]⟩
/-- ... with what is known of each -/
theorem slL_ex {α : Type} [Inhabited α] {L : Lay α} {ks : List CK} {ok : α → Prop} {n : Nat} {xp : Option Addr} {l : Nat} {g : Nat → List Value} (h : Sl w n xp l g) (hn : L.size = n) (hf : ∀ i, i < l → Fits ks (g i)) (ho : ∀ cs, Fits ks cs → ∃ x, cs = L.row x ∧ ok x) :
    ∃ xs : List α, SlL L w xp l xs ∧ ∀ x ∈ xs, ok x := by
  obtain ⟨f, hf2⟩ := Deep.choose_lt (α := α) (n := l) (p := fun i o => g i = L.row o ∧ ok o) fun i hi => ho _ (hf i hi)
  refine ⟨_, slL_of h hn fun i hi => (hf2 i hi).1, fun x hx => ?_⟩
  obtain ⟨i, hi, rfl⟩ := List.mem_map.1 hx
  exact (hf2 i (List.mem_range.1 hi)).2
theorem fits_nil {cs : List Value} (h : Fits [] cs) : cs = [] := by cases cs with | nil => rfl | cons a l => exact h.elim
theorem fits_cons {k : CK} {ks : List CK} {cs : List Value} (h : Fits (k :: ks) cs) : ∃ a l, cs = a :: l ∧ CK.ok k a ∧ Fits ks l := by cases cs with | nil => exact h.elim | cons a l => exact ⟨a, l, rfl, h.1, h.2⟩
end
end Go.Proofs

namespace Go.Proofs
open Go Go.Ev Go.RowKit
set_option linter.unusedSimpArgs false
set_option linter.unusedVariables false
set_option maxRecDepth 100000

instance : Inhabited Sec := ⟨sec []⟩
theorem by_of {cs : List Value} (h : Fits [.int .u8] cs) : ∃ y : Int, cs = byLay.row y ∧ (0 ≤ y ∧ y ≤ 255) := by
  obtain ⟨_, _, rfl, ⟨a, rfl, a1, a2⟩, h1⟩ := fits_cons h
  cases fits_nil h1
  exact ⟨a, rfl, a1, a2⟩
theorem bytes_list {W : World} {xp : Option Addr} {l : Nat} {g : Nat → List Value} (h : Sl W 1 xp l g) (hf : ∀ i, i < l → Fits [.int .u8] (g i)) : ∃ ys : List Int, SlL byLay W xp l ys ∧ By ys := slL_ex h rfl hf fun cs hc => by_of hc
end Go.Proofs

namespace Go.Proofs
open Go Go.Ev
set_option linter.unusedSimpArgs false
set_option linter.unusedVariables false
set_option maxRecDepth 100000

/-- a record to both sides while the power holds -/
theorem eachP_lit {sz : Int} {x : Rec} {s : PS} (f : Bool) (hua : s.ua = true) (hub : s.ub = true) (hl : Lit0 s.pw) (ra : 37 ≤ sz - (s.xa.length : Int)) (rb : 37 ≤ sz - (s.xb.length : Int)) :
    eachP sz x f s = (0, { s with pw := (stepP (stepP s.pw).2).2, xa := s.xa ++ packB x, xb := s.xb ++ packB x }) := by
  have l1 := lit_step hl
  have l2 := lit_step l1.2
  have go : ∀ (pw : Pow) (bs : List Int), Lit0 pw → 37 ≤ sz - (bs.length : Int) → appP pw sz bs x = (0, (stepP pw).2, bs ++ packB x) := fun pw bs h hr => by
    unfold appP
    rw [if_neg (by rw [h.1]; decide), if_neg (by omega), if_neg (by rw [(lit_step h).1]; decide)]
  obtain ⟨es, la, ep, ua, ub, pw, xa, xb⟩ := s
  simp only at hua hub hl ra rb l1 l2
  subst hua
  subst hub
  cases f
  · show eachS sz x [false, true] _ = _
    unfold eachS
    simp only [app1, go pw xa hl ra]
    unfold eachS
    simp only [app1, go _ xb l1.2 rb]
    rfl
  · show eachS sz x [true, false] _ = _
    unfold eachS
    simp only [app1, go pw xb hl rb]
    unfold eachS
    simp only [app1, go _ xa l1.2 ra]
    rfl
theorem keyL_rep0 {D : Dsk} (h : D.key = 0) : ∀ n : Nat, keyL 0 (List.replicate n D) = 0
  | 0 => rfl
  | n + 1 => by
    show keyL (if D.dead = true then 0 else max 0 D.key) (List.replicate n D) = 0
    rw [h]
    have : (if D.dead = true then (0 : Int) else max 0 0) = 0 := by split <;> rfl
    rw [this]
    exact keyL_rep0 h n
theorem keyS_new (g : Geo) (pw : Pow) : keyS (newS g pw) = 0 := keyL_rep0 rfl _
theorem ready0 (g : Geo) (f : Bool) : readyA (arS0 g) f = true := by
  unfold readyA
  have : keyS (arS0 g).ss = 0 := keyS_new g pw0
  rw [this]
  cases f <;> rfl
section calls
variable {w : World} {R : Value → World → Prop}
theorem bld_sec7 (w : World) : (Instr.build 37 #[(0, .int .u8 7)]).run Tryz.prog w = .ok (.agg (secV (sec [7]))) w := bld_sec1 7 w
theorem w_awake20 (hK : ∀ w', Keep (fun _ => False) w w' → R (.bool true) w') : CallV Tryz.prog 63 #[] w R := by
  apply C_ravelinlaw20_awake
  unfold F_ravelinlaw20_awake
  refine DoQ_of (v := .agg (geoV g4)) (fun _ => run_build _ _ _ _ (by kernel_rfl)) (OpA_agg.2 ⟨rfl, ?_⟩)
  refine ar_New g4_ok (by decide) (by decide) fun q w1 hqg hqr hqs h1 hf k1 => T2_mk.2 (OpN_some.2 (OpI_int.2 ⟨rfl, rfl, (Cb_false (p := _)).2 ?_⟩))
  refine DoQ_of (fun _ => bld_sec7 _) (OpA_agg.2 ⟨rfl, ?_⟩)
  refine ⟨_, _, bsl_s1 _ w1, OpS_slice.2 ?_⟩
  have k2 : Keep (fun _ => False) w1 (w1.alloc (.cells (secV (sec [7])) 37)) := Keep.new _ _ _
  have hb2 : Has (w1.alloc (.cells (secV (sec [7])) 37)) w1.heap.size (.cells (secV (sec [7])) 37 (0, 0)) := Has.new _ _
  have o2 : OwnL secLay _ w1.heap.size 37 (some ⟨w1.heap.size, 0, none⟩) 1 1 [sec [7]] := OwnL.mk (xs := [sec [7]]) (Nat.le_refl _) hb2 (by simp [maxLen]) (by simp [Lay.rows, secLay])
  generalize w1.alloc (.cells (secV (sec [7])) 37) = w2 at *
  generalize w1.heap.size = pb at *
  refine DoQ_of (v := .agg (cmdC ⟨3, 0, 0, some ⟨pb, 0, none⟩, 1, 1, 0, 0, false⟩)) (fun _ => run_build _ _ _ _ (by kernel_rfl)) (OpA_agg.2 ⟨rfl, ?_⟩)
  have h2 := h1.keep0 k2
  have k02 := k1.trans k2
  generalize hc : (Cmd.mk 3 0 0 (some ⟨pb, 0, none⟩) 1 1 0 0 false) = c
  have hgate : (gateD (arS0 g4).d ((q.g.d - 2) * q.g.c * q.g.s) 0 c).2 = false := by rw [← hc, hqg]; rfl
  have hput : putP q.pb.room q.pb.sz (arS0 g4).ps false 0 (sec [7]) = ((1, 0), ⟨[(0, (sec [7], 1))], 1, 0, true, true, ⟨true, 0, 2⟩, packB ⟨1, 1, 0, sec [7]⟩, packB ⟨1, 1, 0, sec [7]⟩⟩) := by
    rw [hqr, hqs]
    unfold putP
    rw [if_neg (by decide), if_neg (by decide), if_neg (by decide)]
    have ha := eachP_lit (sz := 65536) (x := ⟨1, IntKind.wrap .u64 ((arS0 g4).ps.last + 1), 0, sec [7]⟩) (s := { (arS0 g4).ps with last := IntKind.wrap .u64 ((arS0 g4).ps.last + 1) }) false rfl rfl lit0 (by decide) (by decide)
    simp only [ha]
    have e1 : IntKind.wrap .u64 ((arS0 g4).ps.last + 1) = 1 := by decide
    rw [e1]
    rfl
  refine ar_DoWrite (c := c) (xs := [sec [7]]) h2 false (by rw [← hc]) (ready0 g4 false) rfl (alone_none false (Or.inr ⟨rfl, rfl⟩)) hgate (by rw [← hc]; rfl) (fun w' k => by rw [← hc]; exact ((SlT.of o2).keepB k fun i cur hh => ArF.not h2 hh (by decide) (by decide) (by decide) (by decide) (by decide) (by decide) (by decide)).sl)
    (fun k s' => (k = 0 ∧ s' = arS0 g4) ∨ (k = 1 ∧ s' = { arS0 g4 with ps := (putP q.pb.room q.pb.sz (arS0 g4).ps false 0 (sec [7])).2 })) (fun _ => False) (Or.inl ⟨rfl, rfl⟩) ?_ ?_ (fun _ _ h => h.elim)
  · rintro k x s1 w3 R1 hx (⟨rfl, rfl⟩ | ⟨rfl, rfl⟩) h3 hn
    · cases hx
      have e : c.lba + ((0 : Nat) : Int) = 0 := by rw [← hc]; rfl
      rw [e]
      refine ar_put0 h3 false (Or.inr (by rw [hqr]; decide)) (fun f _ => by rw [hqs]; cases f <;> decide) fun w4 h4 k4 => ?_
      exact hn _ _ w4 h4 (k4.mono fun i e => Or.inr (Or.inr e)) (Or.inl ⟨by rw [hput], Or.inr ⟨rfl, rfl⟩⟩)
    · cases hx
  rintro s' w3 (⟨h, _⟩ | ⟨_, rfl⟩) h3 k3
  · cases h
  rw [hput] at h3
  refine OpA_agg.2 ⟨rfl, ?_⟩
  have k03 : Keep (fun _ => False) w w3 := k02.trans' k3 fun i hi e => by have := ArF.low hf e; omega
  clear hgate hput hc c h2 o2 hb2 k2 k3
  refine DoQ_of (v := .agg (cmdC ⟨2, 0, 1, none, 0, 0, 0, 0, false⟩)) (fun _ => run_build _ _ _ _ (by kernel_rfl)) (OpA_agg.2 ⟨rfl, ?_⟩)
  generalize hs3 : ({ arS0 g4 with ps := ⟨[(0, (sec [7], 1))], 1, 0, true, true, ⟨true, 0, 2⟩, packB ⟨1, 1, 0, sec [7]⟩, packB ⟨1, 1, 0, sec [7]⟩⟩ } : AS) = s3 at h3
  have hrd : readyA s3 true = true := by
    rw [← hs3]
    unfold readyA
    have : keyS (AS.ss { arS0 g4 with ps := ⟨[(0, (sec [7], 1))], 1, 0, true, true, ⟨true, 0, 2⟩, packB ⟨1, 1, 0, sec [7]⟩, packB ⟨1, 1, 0, sec [7]⟩⟩ }) = 0 := keyS_new g4 pw0
    rw [this]
    rfl
  have hra : readA q s3 0 = (sec [7], 0) := by rw [← hs3]; rfl
  refine ar_DoRead (c := ⟨2, 0, 1, none, 0, 0, 0, 0, false⟩) h3 true rfl hrd rfl (alone_none true (Or.inr (by rw [← hs3]; exact ⟨rfl, rfl⟩))) (by rw [← hs3, hqg]; decide) (by rw [← hs3]; exact (newS_ok g4_ok pw0).ok) (fun k hk => ?_) fun p cc w4 h4 k4 o4 => ?_
  · have hk : (k : Int) < 1 := hk
    have e : k = 0 := by omega
    subst e
    show (readA q s3 0).2 = 0
    rw [hra]
  have k04 : Keep (fun _ => False) w w4 := k03.trans' k4 fun i hi e => by have := ArF.low hf e; omega
  have o4 : OwnL secLay w4 w3.heap.size 37 p 1 cc [(readA q s3 0).1] := o4
  rw [hra] at o4
  rw [show (Cmd.mk 2 0 1 none 0 0 0 0 false).n.toNat = 1 from rfl]
  refine OpA_agg.2 ⟨rfl, ?_⟩
  refine alc_fresh fun w5 hb5 k5 z5 => ?_
  rw [zc_rep] at hb5
  refine StA_all hb5 rfl rfl (one_repC _ _ _ _ _) ?_
  have ku := Keep.one w5 w4.heap.size (.cells (repC 1 0 p 1 cc) 34 (0, 0))
  have k06 : Keep (fun _ => False) w (w5.upd w4.heap.size (.cells (repC 1 0 p 1 cc) 34 (0, 0))) := (k04.trans k5).trans' ku fun i hi e => by have := k04.size; omega
  have h6 := (h4.keep0 k5).keepT hb5 (by decide) (by decide) (by decide) (by decide) (by decide) (by decide) (by decide) (by decide) (by decide) (by decide) (by decide) ku
  have hb6 := hb5.upd_same (.cells (repC 1 0 p 1 cc) 34 (0, 0))
  have o6 := (o4.keep k5 (by simp)).keep ku fun x hx e => by have := o4.lt hx; omega
  generalize w5.upd w4.heap.size (.cells (repC 1 0 p 1 cc) 34 (0, 0)) = w6 at *
  refine LdV_has (v := .int .i64 1) hb6 rfl (OpI_int.2 ((Cb_true (q := _)).2 ?_))
  refine LdV_has (v := .slice p 1 cc) hb6 rfl (OpS_slice.2 ((Cb_true (q := _)).2 ?_))
  refine LdV_has (v := .slice p 1 cc) hb6 rfl (OpS_slice.2 ?_)
  refine o6.ldA (x := sec [7]) rfl (by omega) rfl ?_
  have e7 : (secLay.row (sec [7])).toArray = secV (sec [7]) := by simp [secLay]
  rw [e7]
  refine DoQ_of (fun _ => bld_sec7 _) (OpA_agg.2 ⟨rfl, ?_⟩)
  have h7 : SecOk (sec [7]) := sec_ok (by simp)
  refine EqB_sec h7 h7 fun r hr => ?_
  rw [hr.2 rfl]
  refine (Cb_true (q := _)).2 (ar_Steps h6 (OpI_int.2 (Ret_nil.2 ?_)))
  rw [← hs3]
  exact hK w6 k06
/-! ### New of any form -/
/-! ### a nil array -/
end calls
end Go.Proofs
/-
  what the lifting needs
-/
namespace Go.Proofs
open Go Go.Ev Go.RowKit
end Go.Proofs

namespace Go.Proofs
open Go.Ev
set_option linter.unusedVariables false
set_option maxRecDepth 100000
def F_ravelinlaw20_small (a : Int) (b : Int) (c : Int) (w : World) (R : Value → World → Prop) : Prop :=
  Alc 24 (zc Tryz.prog 24) w fun b1 w => Req ((3 : Int) ≠ 0) (Req ((2 : Int) ≠ 0) (Req ((3 : Int) ≠ 0) (DoQ Tryz.prog (Instr.build 24 #[(0, .int .i64 (IntKind.wrap .i64
  ((IntKind.wrap .i64 (Int.tmod a 3)) + 4))), (1, .int .i64 (IntKind.wrap .i64 ((IntKind.wrap .i64 (Int.tmod b 2)) + 1))), (2, .int .i64 (IntKind.wrap .i64 ((IntKind.wrap
  .i64 (Int.tmod c 3)) + 1)))]) (At w) fun v => OpA 3 v fun cs => StA 3 b1 0 cs w fun w => LdA 3 b1 0 (At w) fun cs1 => Ret [] (R (.agg cs1) w))))
theorem C_ravelinlaw20_small {a : Int} {b : Int} {c : Int} {w : World} {R : Value → World → Prop} (h : F_ravelinlaw20_small a b c w R) : CallV Tryz.prog 65 #[.int .u8 a, .int .u8 b, .int .u8 c] w R := by
  exact calls_of_F (args := [.int .u8 a, .int .u8 b, .int .u8 c]) (mkAnn [] [] [] [] []) Tryz_mixed Tryz.func65 rfl rfl (by kernel_rfl) h
end Go.Proofs

namespace Go.Proofs
open Go Go.Ev
set_option linter.unusedSimpArgs false
set_option linter.unusedVariables false
set_option maxRecDepth 100000
section calls
variable {w : World} {R : Value → World → Prop}
def smallG20 (a b c : Int) : Geo := ⟨a % 3 + 4, b % 2 + 1, c % 3 + 1⟩
theorem smallG20_ok {a b c : Int} : GeoOk (smallG20 a b c) := by
  have h1 := Int.emod_nonneg a (show (3 : Int) ≠ 0 by decide)
  have h2 := Int.emod_lt_of_pos a (show (0 : Int) < 3 by decide)
  have h3 := Int.emod_nonneg b (show (2 : Int) ≠ 0 by decide)
  have h4 := Int.emod_lt_of_pos b (show (0 : Int) < 2 by decide)
  have h5 := Int.emod_nonneg c (show (3 : Int) ≠ 0 by decide)
  have h6 := Int.emod_lt_of_pos c (show (0 : Int) < 3 by decide)
  exact ⟨⟨by show 4 ≤ a % 3 + 4; omega, by show a % 3 + 4 ≤ 32; omega⟩, ⟨by show 1 ≤ b % 2 + 1; omega, by show b % 2 + 1 ≤ 8; omega⟩, ⟨by show 1 ≤ c % 3 + 1; omega, by show c % 3 + 1 ≤ 64; omega⟩⟩
theorem w_small20 {a b c : Int} (ha : 0 ≤ a ∧ a ≤ 255) (hb : 0 ≤ b ∧ b ≤ 255) (hc : 0 ≤ c ∧ c ≤ 255) (hK : ∀ w', Keep (fun _ => False) w w' → R (.agg (geoV (smallG20 a b c))) w') : CallV Tryz.prog 65 #[.int .u8 a, .int .u8 b, .int .u8 c] w R := by
  apply C_ravelinlaw20_small
  unfold F_ravelinlaw20_small
  refine alc_fresh fun w1 hb1 k1 z1 => ?_
  refine ⟨by decide, by decide, by decide, ?_⟩
  have h1 := Int.emod_nonneg a (show (3 : Int) ≠ 0 by decide)
  have h2 := Int.emod_lt_of_pos a (show (0 : Int) < 3 by decide)
  have h3 := Int.emod_nonneg b (show (2 : Int) ≠ 0 by decide)
  have h4 := Int.emod_lt_of_pos b (show (0 : Int) < 2 by decide)
  have h5 := Int.emod_nonneg c (show (3 : Int) ≠ 0 by decide)
  have h6 := Int.emod_lt_of_pos c (show (0 : Int) < 3 by decide)
  rw [Int.tmod_eq_emod_of_nonneg ha.1, Int.tmod_eq_emod_of_nonneg hb.1, Int.tmod_eq_emod_of_nonneg hc.1, wrapI (x := a % 3) (by omega) (by omega), wrapI (x := b % 2) (by omega) (by omega), wrapI (x := c % 3) (by omega) (by omega), wrapI (x := a % 3 + 4) (by omega) (by omega), wrapI (x := b % 2 + 1) (by omega) (by omega), wrapI (x := c % 3 + 1) (by omega) (by omega)]
  refine DoQ_of (v := .agg (geoV (smallG20 a b c))) (fun _ => run_build _ _ _ _ (by kernel_rfl)) (OpA_agg.2 ⟨rfl, ?_⟩)
  refine StA_all hb1 rfl (by kernel_rfl) (one_geoV _) ?_
  refine LdA_all (hb1.upd_same _) rfl (Ret_nil.2 (hK _ ?_))
  exact k1.trans' ((Keep.refl (fun k => k = w.heap.size) _).upd (fun _ => rfl) _) fun i hi e => by omega
end calls
/-! ### what the array is, step by step -/
theorem gate_sync {cap init : Int} {c : Cmd} (hk : c.k = 4) (h5 : 0 ≤ init ∧ init < 16) : (gateD dk0 cap init c).2 = false := by
  unfold gateD
  have e : cdE c cap = 0 := by unfold cdE; rw [if_pos hk]
  rw [if_neg (by rw [e]; omega), if_pos hk]
/-- what stays as it was -/
structure Like (s1 s : AS) : Prop where
  ua : s.ps.ua = s1.ps.ua
  ub : s.ps.ub = s1.ps.ub
  rest : s = { s1 with ds := s.ds, ps := s.ps }
theorem Like.ep {s1 s : AS} (h : Like s1 s) (f : Bool) : epA s f = epA s1 f := by rw [h.rest]; cases f <;> rfl
theorem Like.upA {s1 s : AS} (h : Like s1 s) (f : Bool) : upA s f = upA s1 f := by rw [h.rest]; cases f <;> rfl
theorem Like.lives {s1 s : AS} (h : Like s1 s) (f : Bool) : livesA s f = livesA s1 f := by rw [h.rest]; cases f <;> rfl
theorem Like.split {s1 s : AS} (h : Like s1 s) : s.split = s1.split := by rw [h.rest]
theorem Like.d {s1 s : AS} (h : Like s1 s) : s.d = s1.d := by rw [h.rest]
theorem Like.upS {s1 s : AS} (h : Like s1 s) (f : Bool) : upS s.ps f = upS s1.ps f := by unfold Go.Proofs.upS; rw [h.ua, h.ub]
theorem Like.alone {s1 s : AS} (h : Like s1 s) (ha : Go.Proofs.upA s1 (!false) = false ∨ (livesA s1 (!false) = true ∧ s1.split = false)) : Go.Proofs.upA s (!false) = false ∨ (livesA s (!false) = true ∧ s.split = false) := by
  rw [h.upA, h.lives, h.split]; exact ha
theorem del_len {es : List (Int × Ent)} (hn : (es.map (·.1)).Nodup) {p : Int × Ent} (hp : p ∈ es) : (del es p.1).length + 1 = es.length := by
  induction es with
  | nil => cases hp
  | cons e es ih =>
    simp only [List.map_cons, List.nodup_cons] at hn
    unfold del
    rw [List.filter_cons]
    rcases List.mem_cons.1 hp with rfl | h'
    · rw [show (!(p.1 == p.1)) = false by simp]
      have : es.filter (fun r => !(r.1 == p.1)) = es := by
        rw [List.filter_eq_self]
        intro r hr
        have : r.1 ≠ p.1 := fun e => hn.1 (List.mem_map.2 ⟨r, hr, e⟩)
        simpa using this
      rw [if_neg (by decide), this]
      rfl
    · have hne : e.1 ≠ p.1 := fun he => hn.1 (List.mem_map.2 ⟨p, h', he.symm⟩)
      rw [show (!(e.1 == p.1)) = true by simpa using hne, if_pos rfl]
      have := ih hn.2 h'
      unfold del at this
      simp only [List.length_cons]
      omega
end Go.Proofs

namespace Go.Proofs
open Go Go.Ev
set_option linter.unusedSimpArgs false
set_option linter.unusedVariables false
set_option maxRecDepth 100000

/-- a write by way of the journal while the power holds and each row can be had -/
structure WrV (g : Geo) (s : SS) (now : Int → Sec) (lba : Int) (data : Sec) (ep n : Int) (xa xb : List Int) (r : Int × SS × List Int × List Int) : Prop where
  ok : r.1 = 0
  good : GoodE g r.2.1 (upd now lba data) ep
  steps : s.pw.steps ≤ r.2.1.pw.steps ∧ r.2.1.pw.steps ≤ s.pw.steps + (5 * n + 3)
  dead : ∀ i, deadS r.2.1 i = deadS s i
  view : ∀ i a, 0 ≤ i → 0 ≤ a → viewS r.2.1 i a = none → viewS s i a = none ∨ deadS s i = true
  a : (r.2.2.1.length : Int) ≤ (xa.length : Int) + 370
  b : (r.2.2.2.length : Int) ≤ (xb.length : Int) + 370
theorem writeM_v {g : Geo} {s : SS} {now : Int → Sec} {ep : Int} (h : GoodE g s now ep) (hst1 : s.pw.steps < 100000000000) {lba : Int} (h0 : 0 ≤ lba) (h1 : lba < (g.d - 2) * g.c * g.s) (hl2 : lostN (colsS g s (spotP g lba).1 (spotP g lba).2.2) ≤ 2)
    {data : Sec} (hd : SecOk data) {v : Int} {fs : List Bool} (hfs : fs.length ≤ 2) {sz : Int} {xa xb : List Int} (ha : 400 ≤ sz - (xa.length : Int)) (hb : 400 ≤ sz - (xb.length : Int)) : WrV g s now lba data ep (fs.length : Int) xa xb (writeM sz g fs v lba data ep s xa xb) := by
  have hs := h.ss
  have hi := h.inv
  have hn := h.nok
  have hl := h.lit
  have hst0 := h.st0
  obtain ⟨pst, pco, pof⟩ := spotP_ok hs.geo h0 h1
  obtain ⟨hp2, hps⟩ := planS_seal hs hi hn hl.1 h0 h1 hd hl2
  have hp3 : (planS g s lba data).1.length ≤ 3 := planS_len
  generalize hW : writeM sz g fs v lba data ep s xa xb = W
  unfold writeM at hW
  rw [if_neg (by simp [hp2])] at hW
  simp only at hW
  have hin : ∀ x ∈ (planS g s lba data).1, InR x := fun x hx => seal_inR hs.geo (hps x hx).1
  have hnb : (planS g s lba data).1.any badPut = false := by
    rw [List.any_eq_false]
    intro x hx
    rw [badPut_in (hin x hx)]; decide
  have hbg : beginM sz v (planS g s lba data).1 fs ⟨s.pw, xa, xb⟩ = eachA sz fs ((planS g s lba data).1.map (recI v) ++ [recK 4 v]) ⟨s.pw, xa, xb⟩ := by
    unfold beginM
    rw [if_neg (by rw [hnb]; decide)]
  rw [hbg] at hW
  obtain ⟨L, hL, hL4⟩ : ∃ L : Int, (((planS g s lba data).1.map (recI v) ++ [recK 4 v]).length : Int) = L ∧ (0 ≤ L ∧ L ≤ 4) := ⟨_, rfl, by simp; omega⟩
  have hprod : 0 ≤ L * (fs.length : Int) ∧ L * (fs.length : Int) ≤ 4 * (fs.length : Int) := ⟨Int.mul_nonneg hL4.1 (by omega), Int.mul_le_mul_of_nonneg_right hL4.2 (by omega)⟩
  obtain ⟨a1, a2, a3, a4, a5⟩ := eachA_lit (sz := sz) hfs ((planS g s lba data).1.map (recI v) ++ [recK 4 v]) ⟨s.pw, xa, xb⟩ hl hst0 (by rw [hL]; show s.pw.steps + _ < _; omega) (by rw [hL]; show _ ≤ sz - (xa.length : Int); omega) (by rw [hL]; show _ ≤ sz - (xb.length : Int); omega)
  rw [hL] at a3 a4 a5
  generalize eachA sz fs ((planS g s lba data).1.map (recI v) ++ [recK 4 v]) ⟨s.pw, xa, xb⟩ = B at *
  rw [if_neg (by simp [a1])] at hW
  have hs1 : SsOk g ⟨s.ds, B.2.pw⟩ := ⟨hs.geo, hs.num, hs.len, hs.ok⟩
  have hi1 : Inv g ⟨s.ds, B.2.pw⟩ now := hi.see hs.geo (fun _ _ _ _ => rfl)
  have hpp : planS g s lba data = planS g ⟨s.ds, B.2.pw⟩ lba data := planS_pw hl.1 a2.1 lba data
  rw [hpp] at hW
  obtain ⟨_, s', happ, hw⟩ := hi1.write (ep := ep) hs1 hn a2 h0 h1 hd h.key hl2
  have a3 : B.2.pw.steps = s.pw.steps + L * (fs.length : Int) := a3
  have a4 : (B.2.xa.length : Int) ≤ (xa.length : Int) + 37 * (L * (fs.length : Int)) := a4
  have a5 : (B.2.xb.length : Int) ≤ (xb.length : Int) + 37 * (L * (fs.length : Int)) := a5
  obtain ⟨_, hps1⟩ := planS_seal hs1 hi1 hn a2.1 h0 h1 hd hl2
  have hp31 : (planS g ⟨s.ds, B.2.pw⟩ lba data).1.length ≤ 3 := planS_len
  obtain ⟨s2, c1, _, _, c2, _, _, _⟩ := applyS_ok (ep := ep) hs1 a2 (by show 0 ≤ B.2.pw.steps; omega) (by show B.2.pw.steps + _ < _; omega) (fun x hx => (hps1 x hx).1) h.key
  rw [happ] at c1
  have e2 : s' = s2 := congrArg Prod.snd c1
  subst e2
  rw [happ] at hW
  rw [if_neg (by simp)] at hW
  have c2 : s'.pw.steps = B.2.pw.steps + ((planS g ⟨s.ds, B.2.pw⟩ lba data).1.length : Int) := c2
  obtain ⟨e1, e2, e3, e4, e5⟩ := eachM_lit (sz := sz) (x := recK 5 v) fs ⟨s'.pw, B.2.xa, B.2.xb⟩ hw.lit (by show 0 ≤ s'.pw.steps; omega) (by show s'.pw.steps + _ < _; omega) (by show _ ≤ sz - (B.2.xa.length : Int); omega) (by show _ ≤ sz - (B.2.xb.length : Int); omega)
  generalize eachM sz (recK 5 v) fs ⟨s'.pw, B.2.xa, B.2.xb⟩ = E at *
  subst hW
  have e3 : E.2.pw.steps = s'.pw.steps + (fs.length : Int) := e3
  have e4 : (E.2.xa.length : Int) ≤ (B.2.xa.length : Int) + 37 * (fs.length : Int) := e4
  have e5 : (E.2.xb.length : Int) ≤ (B.2.xb.length : Int) + 37 * (fs.length : Int) := e5
  refine ⟨e1, ⟨⟨hw.ss.geo, hw.ss.num, hw.ss.len, hw.ss.ok⟩, e2, fun i => ?_, hw.inv.see hs.geo (fun _ _ _ _ => rfl), upd_ok hn hd lba, by show 0 ≤ E.2.pw.steps; omega⟩, ⟨by show s.pw.steps ≤ E.2.pw.steps; omega, by show E.2.pw.steps ≤ _; omega⟩, fun i => hw.dead i, fun i a hi' ha' => hw.view i a hi' ha', by show (E.2.xa.length : Int) ≤ _; omega, by show (E.2.xb.length : Int) ≤ _; omega⟩
  show (s'.ds.getD i dsk0).key ≤ ep
  rw [hw.key]
  exact h.key i
/-- what going out costs -/
structure CostLe (s s' : AS) (n m : Int) : Prop where
  steps : s.ps.pw.steps ≤ s'.ps.pw.steps ∧ s'.ps.pw.steps ≤ s.ps.pw.steps + n
  a : (s'.ps.xa.length : Int) ≤ (s.ps.xa.length : Int) + m
  b : (s'.ps.xb.length : Int) ≤ (s.ps.xb.length : Int) + m
  last : s'.ps.last = s.ps.last + 1
  up : s'.ps.ua = s.ps.ua ∧ s'.ps.ub = s.ps.ub
/-- what is lost behind is lost ahead, and what lives lives -/
structure Seen (s s' : SS) : Prop where
  dead : ∀ i, deadS s' i = deadS s i
  view : ∀ i a, 0 ≤ i → 0 ≤ a → viewS s' i a = none → viewS s i a = none
theorem Qv.lost {q : AB} {s : AS} {fin : Int → Sec} {ep x y : Int} (h : Qv q s fin ep x y) {st off : Int} (hst : 0 ≤ st ∧ st < q.g.s) (hof : 0 ≤ off ∧ off < q.g.c) : lostN (colsS q.g s.ss st off) ≤ 2 := by
  obtain ⟨now, hg, _⟩ := h.good
  exact h.v2.lost hg.ss.geo _ _ hst hof
theorem Qv.out {q : AB} {s : AS} {fin : Int → Sec} {ep x y : Int} {f : Bool} (h : Qv q s fin ep x y) (hep : epA s f = ep) {p : Int × Ent} (hp : p ∈ s.ps.es) (hst : s.ps.pw.steps < 10000000000) (hla : s.ps.last < 1000000000000) (ha : 500 ≤ q.pb.sz - (s.ps.xa.length : Int)) (hb : 500 ≤ q.pb.sz - (s.ps.xb.length : Int)) :
    (outA q s f p).1 = 0 ∧ Qv q (outA q s f p).2 fin ep x y ∧ CostLe s (outA q s f p).2 (6 * ((upS s.ps f).length : Int) + 3) 444 ∧ (outA q s f p).2.ps.es = del s.ps.es p.1 ∧ Seen s.ss (outA q s f p).2.ss ∧
      (outA q s f p).2 = { s with ds := (outA q s f p).2.ds, ps := (outA q s f p).2.ps } := by
  have hm := mem_look h.nd hp
  obtain ⟨⟨p0, p1⟩, p2, p3, p4⟩ := h.es p.1 p.2 hm
  have hl0 := h.last
  obtain ⟨now, hg, hf⟩ := h.good
  have hs0 : 0 ≤ s.ps.pw.steps := hg.st0
  have hv : IntKind.wrap .u64 (s.ps.last + 1) = s.ps.last + 1 := wrapU64 (by omega) (by omega)
  unfold outA
  rw [hv]
  have hd : SecOk p.2.1 := by rw [p2]; exact h.fok _
  obtain ⟨pst, _, pof⟩ := spotP_ok hg.ss.geo p0 p1
  have hW := writeM_v (s := s.ss) (v := s.ps.last + 1) (fs := upS s.ps f) (sz := q.pb.sz) (xa := s.ps.xa) (xb := s.ps.xb) hg (by show s.ps.pw.steps < _; omega) p0 p1 (h.lost pst pof) hd (len_upS _ _) (by omega) (by omega)
  have hlu := len_upS s.ps f
  have hlu2 : (upS s.ps false).length = (upS s.ps f).length := by
    unfold upS
    cases f <;> cases s.ps.ua <;> cases s.ps.ub <;> rfl
  unfold outB
  have hu : upS { s.ps with last := s.ps.last + 1 } f = upS s.ps f := rfl
  have hss : (⟨s.ds, s.ps.pw⟩ : SS) = s.ss := rfl
  simp only [hu, hss, hep]
  generalize writeM q.pb.sz q.g (upS s.ps f) (s.ps.last + 1) p.1 p.2.1 ep s.ss s.ps.xa s.ps.xb = r at *
  have w1 := hW.steps
  have w1 : s.ps.pw.steps ≤ r.2.1.pw.steps ∧ r.2.1.pw.steps ≤ s.ps.pw.steps + (5 * ((upS s.ps f).length : Int) + 3) := w1
  have wa := hW.a
  have wb := hW.b
  rw [if_neg (by simp [hW.ok])]
  have hgv : getV s.ps.es p.1 = (p.2.1, p.2.2, 0) := by unfold getV; rw [hm]
  have hcl : cleanE s.ps.es p.1 p.2.2 = 0 := by unfold cleanE; rw [hm]; simp only; rw [if_neg (by omega)]
  have hu2 : upS { s.ps with last := s.ps.last + 1, pw := r.2.1.pw, xa := r.2.2.1, xb := r.2.2.2 } false = upS s.ps false := rfl
  obtain ⟨m1, m2, m3, m4, m5⟩ := eachM_lit (sz := q.pb.sz) (x := ⟨2, p.2.2, p.1, sec []⟩) (upS s.ps false) ⟨r.2.1.pw, r.2.2.1, r.2.2.2⟩ hW.good.lit (by show 0 ≤ r.2.1.pw.steps; omega) (by show r.2.1.pw.steps + _ < _; omega) (by show _ ≤ q.pb.sz - (r.2.2.1.length : Int); omega) (by show _ ≤ q.pb.sz - (r.2.2.2.length : Int); omega)
  have hfl : flushP q.pb.sz { s.ps with last := s.ps.last + 1, pw := r.2.1.pw, xa := r.2.2.1, xb := r.2.2.2 } p.1 p.2.2 = (0, { s.ps with last := s.ps.last + 1, es := del s.ps.es p.1, pw := (eachM q.pb.sz ⟨2, p.2.2, p.1, sec []⟩ (upS s.ps false) ⟨r.2.1.pw, r.2.2.1, r.2.2.2⟩).2.pw, xa := (eachM q.pb.sz ⟨2, p.2.2, p.1, sec []⟩ (upS s.ps false) ⟨r.2.1.pw, r.2.2.1, r.2.2.2⟩).2.xa, xb := (eachM q.pb.sz ⟨2, p.2.2, p.1, sec []⟩ (upS s.ps false) ⟨r.2.1.pw, r.2.2.1, r.2.2.2⟩).2.xb }) := by
    unfold flushP
    simp only [hgv]
    rw [if_neg (by decide), if_neg (by omega)]
    unfold eachP
    rw [hu2, eachS_eq]
    simp only [m1, hcl]
    rfl
  rw [hfl]
  generalize eachM q.pb.sz ⟨2, p.2.2, p.1, sec []⟩ (upS s.ps false) ⟨r.2.1.pw, r.2.2.1, r.2.2.2⟩ = M at *
  have m3 : M.2.pw.steps = r.2.1.pw.steps + ((upS s.ps false).length : Int) := m3
  have m4 : (M.2.xa.length : Int) ≤ (r.2.2.1.length : Int) + 37 * ((upS s.ps false).length : Int) := m4
  have m5 : (M.2.xb.length : Int) ≤ (r.2.2.2.length : Int) + 37 * ((upS s.ps false).length : Int) := m5
  rw [hlu2] at m3 m4 m5
  have hseen : Seen s.ss ⟨r.2.1.ds, M.2.pw⟩ := ⟨fun i => hW.dead i, fun i a hi ha hv => by
    rcases hW.view i a hi ha hv with hh | hh
    · exact hh
    · exact view_dead hh⟩
  refine ⟨rfl, ⟨⟨upd now p.1 p.2.1, hW.good.pow m2 (by show 0 ≤ M.2.pw.steps; omega), fun l hl => ?_⟩, fun j a hj ha hv => h.v2 j a hj ha (hseen.view j a hj.1 ha.1 hv), fun l e hl => ?_, keys_nodup_del h.nd _, by show 0 ≤ s.ps.last + 1; omega, h.fok⟩, ⟨⟨by show s.ps.pw.steps ≤ M.2.pw.steps; omega, by show M.2.pw.steps ≤ _; omega⟩, by show (M.2.xa.length : Int) ≤ _; omega, by show (M.2.xb.length : Int) ≤ _; omega, rfl, rfl, rfl⟩, rfl, hseen, rfl⟩
  · have hl : mlook (del s.ps.es p.1) l = none := hl
    rw [look_del] at hl
    unfold upd
    by_cases he : l = p.1
    · rw [if_pos he, p2, he]
    · rw [if_neg he] at hl ⊢
      exact hf l hl
  · have hl : mlook (del s.ps.es p.1) l = some e := hl
    rw [look_del] at hl
    split at hl
    · cases hl
    · obtain ⟨e1, e2, e3, e4⟩ := h.es l e hl
      exact ⟨e1, e2, e3, by show e.2 ≤ s.ps.last + 1; omega⟩
/-- another set beneath -/
theorem Qv.set {q : AB} {s : AS} {fin : Int → Sec} {ep ep' x y x' y' : Int} (h : Qv q s fin ep x y) {s' : SS} (hg : ∀ now, GoodE q.g s.ss now ep → GoodE q.g s' now ep') (hv : V2 q.g s' x' y') {u v : Bool} {ea eb : Int} {la lb sp : Bool} {mk : List Int} {lt : Int} {d : Dk} :
    Qv q ⟨s'.ds, { s.ps with pw := s'.pw }, u, v, la, ea, lb, eb, sp, mk, lt, d⟩ fin ep' x' y' := by
  obtain ⟨now, g1, g2⟩ := h.good
  exact ⟨⟨now, hg now g1, g2⟩, hv, h.es, h.nd, h.last, h.fok⟩
theorem V2.all {g : Geo} {s : SS} (h : ∀ j a, (0 ≤ j ∧ j < g.d) → (0 ≤ a ∧ a < g.c * g.s) → viewS s j a ≠ none) (x y : Int) : V2 g s x y := fun j a hj ha hv => absurd hv (h j a hj ha)
theorem newS_v2 {g : Geo} (hg : GeoOk g) (x y : Int) : V2 g (newS g pw0) x y := V2.all (fun j a hj ha => by rw [newS_view hg hj ha]; simp) x y
theorem qv_new {q : AB} {g : Geo} (hg : GeoOk g) (hqg : q.g = g) (x y : Int) : Qv q (arS0 g) now0 0 x y := by
  refine ⟨⟨now0, by rw [hqg]; exact (newS_good hg).toE, fun _ _ => rfl⟩, by rw [hqg]; exact newS_v2 hg x y, fun l e h => absurd (show (none : Option Ent) = some e from h) (by simp), List.nodup_nil, (show (0 : Int) ≤ 0 by decide), now0_ok⟩
theorem keyS_zero {g : Geo} {s : SS} {now : Int → Sec} (h : GoodE g s now 0) : keyS s = 0 := by
  have h1 := keyS_le (s := s) (e := 0) (by decide) h.key
  have h2 := keyS_nn s
  omega
theorem Qv.ready {q : AB} {s : AS} {fin : Int → Sec} {ep x y : Int} {f : Bool} (h : Qv q s fin ep x y) (hl : livesA s f = true) (he : ep ≤ epA s f) (h0 : 0 ≤ ep) : readyA s f = true := by
  obtain ⟨now, hg, _⟩ := h.good
  have := keyS_le (s := s.ss) h0 hg.key
  have hon : s.ps.pw.on = true := hg.lit.1
  unfold readyA
  rw [hon, hl, decide_eq_true (by omega)]
  rfl
/-- a disk fails; is replaced -/
theorem failS_goodE {g : Geo} {s : SS} {now : Int → Sec} {ep : Int} (h : GoodE g s now ep) {i : Int} (hi : 0 ≤ i ∧ i < g.d) : GoodE g (failS s i) now ep :=
  ⟨failS_ok h.ss hi.1 hi.2, h.lit, fun j => by rw [failS_key (by have := h.ss.num; omega)]; exact h.key j, failS_inv h.ss h.inv hi.1 hi.2, h.nok, h.st0⟩
theorem failA_ss (s : AS) (n : Nat) : (failA s n).ss = failS s.ss (n : Int) := by unfold failS; rw [Int.toNat_natCast]; rfl
theorem Qv.fail {q : AB} {s : AS} {fin : Int → Sec} {ep x : Int} (h : Qv q s fin ep x x) {n : Nat} (hn : (n : Int) < q.g.d) : Qv q (failA s n) fin ep x n := by
  obtain ⟨now, hg, _⟩ := h.good
  have := h.set (s' := (failA s n).ss) (x' := x) (y' := n) (fun now' g' => by rw [failA_ss]; exact failS_goodE g' ⟨by omega, hn⟩) (by rw [failA_ss]; exact h.v2.fail hg.ss ⟨by omega, hn⟩) (u := s.ua) (v := s.ub) (ea := s.ea) (eb := s.eb) (la := s.la) (lb := s.lb) (sp := s.split) (mk := s.marks) (lt := s.later) (d := s.d)
  exact this

/-! ### ArrayRebuilds: what holds between its calls -/
/-- ph: 0 no disk has failed; 1 the disk k has; 2 it has been replaced. left: so many of its sectors are to be rebuilt. S A L: the most steps, bytes of a memory, versions. -/
structure RbI (q : AB) (k : Nat) (ph : Nat) (left : Int) (S A L : Int) (fin : Int → Sec) (s : AS) : Prop where
  qv : Qv q s fin 0 k k
  dead : ∀ i, 0 ≤ i → deadS s.ss i = true → i = (k : Int) ∧ ph = 1
  mrk : ph = 2 → (∀ a, (0 ≤ a ∧ a < q.g.c * q.g.s) → viewS s.ss k a = none → q.g.c * q.g.s - left ≤ a) ∧ s.marks[k]? = some (q.g.c * q.g.s - left)
  left : 0 ≤ left ∧ left ≤ q.g.c * q.g.s
  room : s.ps.es.length ≤ 3
  steps : s.ps.pw.steps ≤ S
  a : (s.ps.xa.length : Int) ≤ A
  b : (s.ps.xb.length : Int) ≤ A
  last : s.ps.last ≤ L
  ua : s.ps.ua = true ∧ s.ps.ub = true
  lives : s.la = true ∧ s.lb = true
  ep : s.ea = 0 ∧ s.eb = 0
  split : s.split = false
  d : s.d = dk0
  marks : s.marks.length = q.g.d.toNat
section rb
variable {q : AB} {k ph : Nat} {left S A L : Int} {fin : Int → Sec} {s : AS}
theorem RbI.live (h : RbI q k ph left S A L fin s) (f : Bool) : livesA s f = true := by cases f <;> first | exact h.lives.1 | exact h.lives.2
theorem RbI.ep0 (h : RbI q k ph left S A L fin s) (f : Bool) : epA s f = 0 := by cases f <;> first | exact h.ep.1 | exact h.ep.2
theorem RbI.ready (h : RbI q k ph left S A L fin s) (f : Bool) : readyA s f = true := h.qv.ready (h.live f) (Int.le_of_eq (h.ep0 f).symm) (Int.le_refl _)
theorem RbI.up (h : RbI q k ph left S A L fin s) (f : Bool) : (upS s.ps f).length = 2 := by
  unfold upS
  rw [h.ua.1, h.ua.2]
  cases f <;> rfl
theorem RbI.alone (h : RbI q k ph left S A L fin s) (f : Bool) : upA s (!f) = false ∨ (livesA s (!f) = true ∧ s.split = false) := Or.inr ⟨h.live _, h.split⟩
theorem RbI.new {g : Geo} (hg : GeoOk g) (hqg : q.g = g) (k : Nat) : RbI q k 0 (g.c * g.s) 0 0 0 now0 (arS0 g) := by
  have hsz := hg.size
  refine ⟨qv_new hg hqg k k, fun i _ hi => absurd hi (by rw [show deadS (arS0 g).ss i = false from newS_dead g pw0 i]; decide), (fun h => by cases h), by rw [hqg]; omega, Nat.zero_le _, Int.le_refl _, Int.le_refl _, Int.le_refl _, Int.le_refl _, ⟨rfl, rfl⟩, ⟨rfl, rfl⟩, ⟨rfl, rfl⟩, rfl, rfl, ?_⟩
  rw [hqg]
  exact List.length_replicate ..
theorem RbI.mono (h : RbI q k ph left S A L fin s) {S' A' L' : Int} (h1 : S ≤ S') (h2 : A ≤ A') (h3 : L ≤ L') : RbI q k ph left S' A' L' fin s :=
  ⟨h.qv, h.dead, h.mrk, h.left, h.room, Int.le_trans h.steps h1, Int.le_trans h.a h2, Int.le_trans h.b h2, Int.le_trans h.last h3, h.ua, h.lives, h.ep, h.split, h.d, h.marks⟩
theorem RbI.roomM (h : RbI q k ph left S A L fin s) (hz : q.pb.sz = 65536) (hA : A ≤ 60000) (f : Bool) : 64 ≤ (q.pb.sz - ((xsA s.ps f).length : Int)) / 37 := by
  have ha := h.a
  have hb := h.b
  rw [hz]
  cases f
  · show 64 ≤ ((65536 : Int) - (s.ps.xa.length : Int)) / 37; omega
  · show 64 ≤ ((65536 : Int) - (s.ps.xb.length : Int)) / 37; omega
/-- a sector goes out -/
theorem RbI.out (h : RbI q k ph left S A L fin s) (hz : q.pb.sz = 65536) (hS : S ≤ 1000000) (hA : A ≤ 60000) (hL : L ≤ 1000000) (f : Bool) {p : Int × Ent} (hp : p ∈ s.ps.es) :
    (outA q s f p).1 = 0 ∧ RbI q k ph left (S + 15) (A + 444) (L + 1) fin (outA q s f p).2 ∧ (outA q s f p).2.ps.es = del s.ps.es p.1 := by
  have h1 := h.steps
  have h2 := h.a
  have h3 := h.b
  have h4 := h.last
  obtain ⟨p1, p2, p3, p4, p5, p6⟩ := h.qv.out (f := f) (h.ep0 f) hp (by omega) (by omega) (by rw [hz]; omega) (by rw [hz]; omega)
  rw [h.up f] at p3
  have c1 := p3.steps
  have c2 := p3.a
  have c3 := p3.b
  have c4 := p3.last
  refine ⟨p1, ⟨p2, fun i hi hd => h.dead i hi (by rw [← p5.dead]; exact hd), fun h2 => ?_, h.left, ?_, by omega, by omega, by omega, by omega, by rw [p3.up.1, p3.up.2]; exact h.ua, ?_, ?_, ?_, ?_, ?_⟩, p4⟩
  · obtain ⟨m1, m2⟩ := h.mrk h2
    refine ⟨fun a ha hv => m1 a ha (p5.view k a (by omega) ha.1 hv), ?_⟩
    rw [p6]; exact m2
  · rw [p4]
    have := del_lt hp
    have := h.room
    omega
  all_goals rw [p6]
  · exact h.lives
  · exact h.ep
  · exact h.split
  · exact h.d
  · exact h.marks
/-- a put -/
theorem RbI.put (h : RbI q k ph left S A L fin s) (hz : q.pb.sz = 65536) (hq : q.pb.room = 3) (hS : S ≤ 1000000) (hA : A ≤ 60000) (hL : L ≤ 1000000) (hcap : capG20 q.g ≤ 100000) (f : Bool) {lba : Int} {d : Sec} (hd : SecOk d) (h0 : 0 ≤ lba) (h1 : lba < capG20 q.g) (hr : (getV s.ps.es lba).2.2 = 0 ∨ (s.ps.es.length : Int) < q.pb.room) :
    (putP q.pb.room q.pb.sz s.ps f lba d).1.2 = 0 ∧ RbI q k ph left (S + 2) (A + 74) (L + 1) (upd fin lba d) { s with ps := (putP q.pb.room q.pb.sz s.ps f lba d).2 } := by
  have e1 := h.steps
  have e2 := h.a
  have e3 := h.b
  have e4 := h.last
  have hroom : mlook s.ps.es lba = none → (s.ps.es.length : Int) < q.pb.room := fun hn => by
    rcases hr with hr | hr
    · unfold getV at hr
      rw [hn] at hr
      exact absurd hr (by decide)
    · exact hr
  obtain ⟨p1, p2, p3, p4⟩ := h.qv.put (f := f) hd h0 h1 (by cases f <;> first | exact h.ua.1 | exact h.ua.2) hroom (by omega) (by omega) (by rw [hz]; omega) (by rw [hz]; omega) hcap
  rw [h.up f] at p3
  have c1 := p3.steps
  have c2 := p3.a
  have c3 := p3.b
  have c4 := p3.last
  refine ⟨p1, ⟨p2, h.dead, h.mrk, h.left, ?_, by rw [c1]; omega, by omega, by omega, by rw [c4]; omega, by rw [p3.up.1, p3.up.2]; exact h.ua, h.lives, h.ep, h.split, h.d, h.marks⟩⟩
  show (putP q.pb.room q.pb.sz s.ps f lba d).2.es.length ≤ 3
  rw [p4]
  cases hm : mlook s.ps.es lba with
  | none =>
    have := hroom hm
    rw [look_new hm]
    simp
    omega
  | some e =>
    have : (ins s.ps.es lba (d, s.ps.last + 1)).length = s.ps.es.length := by
      unfold ins
      rw [if_pos (by rw [List.any_eq_true]
                     unfold mlook at hm
                     rw [Option.map_eq_some_iff] at hm
                     obtain ⟨r, hr1, _⟩ := hm
                     exact ⟨r, List.mem_of_find?_eq_some hr1, by simpa using List.find?_some hr1⟩)]
      simp
    rw [this]
    exact h.room
/-- the disk fails -/
theorem RbI.fail (h : RbI q k 0 left S A L fin s) (hk : (k : Int) < q.g.d) : RbI q k 1 left S A L fin (failA s k) := by
  obtain ⟨now, hg, _⟩ := h.qv.good
  have hn := hg.ss.num
  have hlt : k < s.ss.ds.length := by omega
  refine ⟨h.qv.fail hk, fun i hi hd => ?_, (fun h => by cases h), h.left, h.room, h.steps, h.a, h.b, h.last, h.ua, h.lives, h.ep, h.split, h.d, h.marks⟩
  rw [failA_ss, failS_dead (by omega) (by rw [Int.toNat_natCast]; exact hlt) hi] at hd
  rcases hd with hd | hd
  · exact ⟨hd, rfl⟩
  · exact absurd (h.dead i hi hd).2 (by decide)
/-- it is replaced -/
def replA (s : AS) (n : Nat) : AS := { s with ds := s.ds.set n (replD (s.ds.getD n dsk0)), marks := s.marks.set n 0 }
theorem replA_ss (s : AS) (n : Nat) : (replA s n).ss = replS s.ss (n : Int) := by unfold replS; rw [Int.toNat_natCast]; rfl
theorem RbI.repl (h : RbI q k ph left S A L fin s) (hk : (k : Int) < q.g.d) : RbI q k 2 (q.g.c * q.g.s) S A L fin (replA s k) := by
  obtain ⟨now, hg, _⟩ := h.qv.good
  have hn := hg.ss.num
  have hsz := hg.ss.geo.size
  have hlt : k < s.ss.ds.length := by omega
  have hss := replA_ss s k
  have hr : (k : Int).toNat < s.ss.ds.length := by rw [Int.toNat_natCast]; exact hlt
  have hv2 : V2 q.g (replS s.ss (k : Int)) k k := fun j a hj ha hv => by
    rw [replS_view (by omega) hr hj.1] at hv
    split at hv
    · exact Or.inl ‹_›
    · exact h.qv.v2 j a hj ha hv
  have hqv : Qv q (replA s k) fin 0 k k := by
    have := h.qv.set (s' := (replA s k).ss) (x' := k) (y' := k) (fun now' g' => by rw [hss]; exact (replS_good g'.good ⟨by omega, hk⟩).toE) (by rw [hss]; exact hv2) (u := s.ua) (v := s.ub) (ea := s.ea) (eb := s.eb) (la := s.la) (lb := s.lb) (sp := s.split) (mk := s.marks.set k 0) (lt := s.later) (d := s.d)
    exact this
  refine ⟨hqv, fun i hi hd => ?_, fun _ => ⟨fun a ha _ => by omega, ?_⟩, by omega, h.room, h.steps, h.a, h.b, h.last, h.ua, h.lives, h.ep, h.split, h.d, ?_⟩
  · rw [hss, replS_dead (by omega) hr hi] at hd
    split at hd
    · cases hd
    · rename_i hne
      exact absurd (h.dead i hi hd).1 hne
  · have := h.marks
    show (s.marks.set k 0)[k]? = _
    rw [List.getElem?_set_self (by omega), Int.sub_self]
  · show (s.marks.set k 0).length = _
    rw [List.length_set]; exact h.marks
/-- so many of its sectors are rebuilt -/
def rebA (q : AB) (s : AS) (n : Nat) (m c ep : Int) : AS := { s with ds := (rebS q.g s.ss n m c ep).2.2.ds, ps := { s.ps with pw := (rebS q.g s.ss n m c ep).2.2.pw }, marks := s.marks.set n (rebS q.g s.ss n m c ep).1 }
theorem RbI.rebuild (h : RbI q k 2 left S A L fin s) (hk : (k : Int) < q.g.d) (hS : S ≤ 1000000) {c : Int} (hc : 0 ≤ c) :
    (rebS q.g s.ss k (q.g.c * q.g.s - left) c 0).2.1 = 0 ∧ (rebS q.g s.ss k (q.g.c * q.g.s - left) c 0).1 = q.g.c * q.g.s - max 0 (left - c) ∧ RbI q k 2 (max 0 (left - c)) (S + min left c) A L fin (rebA q s k (q.g.c * q.g.s - left) c 0) := by
  obtain ⟨now, hg, hf⟩ := h.qv.good
  have hst := h.steps
  have hle := h.left
  have hal : deadS s.ss (k : Int) = false := by
    cases hd : deadS s.ss (k : Int)
    · rfl
    · exact absurd (h.dead k (by omega) hd).2 (by decide)
  obtain ⟨s', a1, a2, a3, a4⟩ := rebS_ok (i := (k : Int)) (m := q.g.c * q.g.s - left) (n := c) ⟨by omega, hk⟩ hg.good (by show s.ps.pw.steps < _; omega) hal (by omega) hc (fun st off hst hof => h.qv.lost hst hof)
  obtain ⟨m1, m2⟩ := h.mrk rfl
  have hmin : min (q.g.c * q.g.s) (q.g.c * q.g.s - left + c) = q.g.c * q.g.s - max 0 (left - c) := by omega
  unfold rebA
  rw [a1, hmin]
  rw [hmin] at a2
  have hstN : s'.pw.steps ≤ s.ps.pw.steps + (q.g.c * q.g.s - max 0 (left - c) - (q.g.c * q.g.s - left)) := a2.stN
  refine ⟨rfl, rfl, ⟨⟨⟨now, a2.toE, hf⟩, fun j a hj ha hv => h.qv.v2 j a hj ha ((a4 j a hj ha).1 hv).1, h.qv.es, h.qv.nd, h.qv.last, h.qv.fok⟩, fun i hi hd => h.dead i hi (by rw [← a3]; exact hd), fun _ => ⟨fun a ha hv => ?_, ?_⟩, by omega, h.room, by show s'.pw.steps ≤ _; omega, h.a, h.b, h.last, h.ua, h.lives, h.ep, h.split, h.d, ?_⟩⟩
  · obtain ⟨v1, v2⟩ := (a4 k a ⟨by omega, hk⟩ ha).1 hv
    have := m1 a ha v1
    omega
  · have := h.marks
    show (s.marks.set k _)[k]? = _
    have hd := hg.ss.geo.d
    rw [List.getElem?_set_self (by omega)]
  · show (s.marks.set k _).length = _
    rw [List.length_set]; exact h.marks
end rb
end Go.Proofs

namespace Go.Proofs
open Go Go.Ev Go.RowKit
set_option linter.unusedSimpArgs false
set_option linter.unusedVariables false
set_option maxRecDepth 100000

def firstA (s : AS) : Option Bool := if readyA s false = true then some false else if readyA s true = true then some true else none
def firstN (o : Option Bool) : Int := match o with
  | some f => sideN f
  | none => 0
section plain
variable {w w' : World} {q : AB} {lk : Int} {s : AS}
/-- what a call may change that changes the marks too -/
def ArG (q : AB) (w : World) (k : Nat) : Prop := ArF q w k ∨ q.ms = some ⟨k, 0, none⟩
theorem ArG.ofF (k : Keep (ArF q w) w w') : Keep (ArG q w) w w' := k.mono fun i e => Or.inl e
theorem ArG.trans {w1 w2 : World} (h : Keep (ArG q w) w w1) (k : Keep (ArG q w1) w1 w2) : Keep (ArG q w) w w2 :=
  h.trans' k fun i hi hf => Classical.byContradiction fun hn => by
    rcases hf with (e | e | e | e | e | e | e | ⟨hb, cs, hc⟩) | e
    · exact hn (Or.inl (Or.inl e))
    · exact hn (Or.inl (Or.inr (Or.inl e)))
    · exact hn (Or.inl (Or.inr (Or.inr (Or.inl e))))
    · exact hn (Or.inl (Or.inr (Or.inr (Or.inr (Or.inl e)))))
    · exact hn (Or.inl (Or.inr (Or.inr (Or.inr (Or.inr (Or.inl e))))))
    · exact hn (Or.inl (Or.inr (Or.inr (Or.inr (Or.inr (Or.inr (Or.inl e)))))))
    · exact hn (Or.inl (Or.inr (Or.inr (Or.inr (Or.inr (Or.inr (Or.inr (Or.inl e))))))))
    · exact hn (Or.inl (Or.inr (Or.inr (Or.inr (Or.inr (Or.inr (Or.inr (Or.inr ⟨hb, cs, (h.block i hi hn).symm.trans hc⟩))))))))
    · exact hn (Or.inr e)
theorem ArG.low {n : Nat} (h : ArFrom q n) (ha : ArAt w q lk s) {k : Nat} (hk : ArG q w k) : n ≤ k := by
  rcases hk with e | e
  · exact ArF.low h e
  · have := (ha.marks.lt e).1
    have := h.base
    omega
theorem ArG.not (h : ArAt w q lk s) {k : Nat} {cs : Array Value} {t : TypeId} {f : Nat × Nat} (hk : Has w k (.cells cs t f)) (h1 : t ≠ 5) (h2 : t ≠ 209) (h3 : t ≠ 214) (h4 : t ≠ 220) (h5 : t ≠ 260) (h6 : t ≠ 153) (h7 : t ≠ 143) (h8 : t ≠ 3) : ¬ ArG q w k := by
  rintro (e | e)
  · exact ArF.not h hk h1 h2 h3 h4 h5 h6 h7 e
  · obtain ⟨_, cur, hh⟩ := own_has h.marks k 0 e
    have := hk.inj hh
    simp only [Obj.cells.injEq] at this
    exact h8 this.2.1
/-- the marks are others -/
theorem ArAt.mark (h : ArAt w q lk s) {mk : List Int} (o : OwnL iLay w' q.pb.base 3 q.ms q.g.d.toNat q.mc mk) (k : Keep (fun k => q.ms = some ⟨k, 0, none⟩) w w') : ArAt w' q lk { s with marks := mk } := by
  have ne : ∀ {i : Nat} {cs : Array Value} {t : TypeId} {f : Nat × Nat}, Has w i (.cells cs t f) → t ≠ 3 → ¬ q.ms = some ⟨i, 0, none⟩ := by
    intro i cs t f hi ht e
    obtain ⟨_, cur, hh⟩ := own_has h.marks i 0 e
    have := hi.inj hh
    simp only [Obj.cells.injEq] at this
    exact ht this.2.1
  have nm : ¬ q.ms = some ⟨q.pb.mp, 0, none⟩ := fun e => by
    obtain ⟨_, cur, hh⟩ := own_has h.marks _ 0 e
    obtain ⟨_, arr, clk, hm, _⟩ := h.pair.cache
    cases hh.inj hm
  refine ⟨k.has h.cells (ne h.cells (by decide)), h.set.keep k fun i hi e => ?_, h.disks.keep k fun b hb => ?_, h.pair.keepS k (fun i hi e => ?_) (ne h.pair.cache.1 (by decide)), k.has (show Has w _ _ from h.desk) (ne h.desk (by decide)), o⟩
  · obtain ⟨_, cur, hh⟩ := own_has h.marks _ 0 e
    exact h.set.typ hh (by decide) (by decide) (by decide) hi
  · obtain ⟨_, cur, hh⟩ := own_has h.disks b 0 hb
    exact ne hh (by decide)
  · obtain ⟨_, cur, hh⟩ := own_has h.marks _ 0 e
    exact PFoot.not hh (by decide) h.pair (by decide) (by decide) (by decide) hi
/-- a set whose rows lie elsewhere -/
theorem ArAt.ofSetQ (h : ArAt w q lk s) {bks : List (Nat × Nat)} (hb : bks.map Prod.fst = q.bks.map Prod.fst) {s' : SS} (hs : SetAt w' ⟨q.pb.m, q.g, bks⟩ s') (k : Keep (SFoot q.sb) w w') :
    ArAt w' { q with bks := bks } lk { s with ds := s'.ds, ps := { s.ps with pw := s'.pw } } := by
  have st := h.stm
  have hm : MemsAt w' q.mb ⟨s'.pw, s.ps.xa, s.ps.xb⟩ := st.mems.pow k (fun i hm hs => st.share hm hs) hs.main
  have kk : Keep (WFoot q.mb q.g q.bks w) w w' := k.mono fun i e => Or.inr e
  have nmap : ¬ SFoot q.sb q.pb.mp := fun e => by
    obtain ⟨_, arr, clk, hm, _⟩ := h.pair.cache
    obtain ⟨cs, t, hc⟩ := h.set.blk e
    cases hc.inj hm
  refine ⟨WFoot.has st kk h.cells (by decide) (by decide) (by decide) (by decide) (by decide), hs, ?_,
    ⟨WFoot.has st kk h.pair.cells (by decide) (by decide) (by decide) (by decide) (by decide), h.pair.cache.keep k (fun e => h.set.typ h.pair.cache.1 (by decide) (by decide) (by decide) e) nmap, hm.main, hm.rams, h.pair.ne, hm.fit, h.pair.form, h.pair.low⟩,
    WFoot.has st kk (show Has w _ _ from h.desk) (by decide) (by decide) (by decide) (by decide) (by decide), h.marks.keep k fun b hb => ?_⟩
  · show OwnL dLay w' q.pb.base 111 q.sp q.g.d.toNat q.sc (bks.map Prod.fst)
    rw [hb]
    refine h.disks.keep k fun b hb => ?_
    obtain ⟨_, cur, hh⟩ := own_has h.disks b 0 hb
    exact h.set.typ hh (by decide) (by decide) (by decide)
  · obtain ⟨_, cur, hh⟩ := own_has h.marks b 0 hb
    exact h.set.typ hh (by decide) (by decide) (by decide)
/-- a disk has got another row -/
theorem SetAt.repl {m : Nat} {g : Geo} {bks : List (Nat × Nat)} {s : SS} (h : SetAt w ⟨m, g, bks⟩ s) {n b r : Nat} {D D' : Dsk} (hbk : bks[n]? = some (b, r)) (hda : DiskAt w m b r D) (hdl : (D'.secs.length : Int) = g.c * g.s) (hd2 : DiskAt w' m b w.heap.size D') (k2 : Keep (fun k => k = b) w w') :
    (bks.set n (b, w.heap.size)).map Prod.fst = bks.map Prod.fst ∧ SetAt w' ⟨m, g, bks.set n (b, w.heap.size)⟩ ⟨s.ds.set n D', s.pw⟩ := by
  have hlt := (List.getElem?_eq_some_iff.1 hbk).1
  have hlen : bks.length = s.ds.length := h.len
  have hfst : (bks.set n (b, w.heap.size)).map Prod.fst = bks.map Prod.fst := by
    apply List.ext_getElem?
    intro j
    rw [List.getElem?_map, List.getElem?_map]
    by_cases e : n = j
    · subst e; rw [List.getElem?_set_self hlt, hbk]; rfl
    · rw [List.getElem?_set_ne e]
  have hold : ∀ br ∈ bks, br.1 < w.heap.size ∧ br.2 < w.heap.size := fun br hbr => by
    obtain ⟨j, hj⟩ := List.getElem?_of_mem hbr
    have hjl := (List.getElem?_eq_some_iff.1 hj).1
    obtain ⟨b', r', D', hbk', _, hda', _⟩ := h.get (i := j) (by omega)
    have hbk' : bks[j]? = some (b', r') := hbk'
    rw [hj] at hbk'
    cases hbk'
    obtain ⟨cs, hc⟩ := hda'.rcells
    exact ⟨hda'.cells.lt, hc.lt⟩
  refine ⟨hfst, ⟨k2.has (show Has w _ _ from h.main) (fun e => (hda.nem h.main).1 e.symm), h.geo, ?_, ?_, fun j br D2 hbj hD2 => ?_, ?_, ?_⟩⟩
  · show (bks.set _ _).length = (s.ds.set _ _).length
    rw [List.length_set, List.length_set]; exact hlen
  · show ((s.ds.set _ _).length : Int) = g.d
    rw [List.length_set]; exact h.num
  · have hbj : (bks.set n (b, w.heap.size))[j]? = some br := hbj
    have hD2 : (s.ds.set n D')[j]? = some D2 := hD2
    by_cases e : n = j
    · subst e
      rw [List.getElem?_set_self hlt] at hbj
      rw [List.getElem?_set_self (by omega)] at hD2
      cases hbj
      cases hD2
      exact ⟨hd2, hdl⟩
    · rw [List.getElem?_set_ne e] at hbj hD2
      obtain ⟨q1, q2⟩ := h.disks j br D2 hbj hD2
      have hjb : br.1 ≠ b := fun e' => e (nodup_at h.nodb (x := b) (by show (bks.map Prod.fst)[n]? = _; rw [List.getElem?_map, hbk]; rfl) (by show (bks.map Prod.fst)[j]? = _; rw [List.getElem?_map, hbj]; simp [e']))
      obtain ⟨c1, hc1⟩ := q1.rcells
      exact ⟨q1.keep k2 hjb (fun e' => (hda.cells.ne hc1 (by simp only [ne_eq, Obj.cells.injEq]; intro e; exact absurd e.2.1 (by decide))) e'.symm), q2⟩
  · show ((bks.set n (b, w.heap.size)).map Prod.fst).Nodup
    rw [hfst]; exact h.nodb
  · show ((bks.set n (b, w.heap.size)).map Prod.snd).Nodup
    have hmap : (bks.set n (b, w.heap.size)).map Prod.snd = (bks.map Prod.snd).set n w.heap.size := by
      rw [List.map_set]
    rw [hmap]
    have hnd : (bks.map Prod.snd).Nodup := h.nodr
    have hnot : w.heap.size ∉ bks.map Prod.snd := fun hm => by
      obtain ⟨br, hbr, e⟩ := List.mem_map.1 hm
      have := (hold br hbr).2
      omega
    exact nodup_set hnd hnot _
end plain
section calls
variable {w : World} {q : AB} {lk : Int} {s : AS} {R : Value → World → Prop}
theorem ar_first (h : ArAt w q lk s) (hK : ∀ w', Keep (fun _ => False) w w' → R (.tuple #[.int .i64 (firstN (firstA s)), .bool (firstA s).isSome]) w') : CallV Tryz.prog 161 #[.pointer (some ⟨q.a, 0, none⟩)] w R := by
  apply C_array_Array_first
  unfold F_array_Array_first
  unfold firstA at hK
  refine LoopC_of (σ := Int × Unit) (fun st w' => Keep (fun _ => False) w w' ∧ (st.1 = 0 ∨ (st.1 = 1 ∧ readyA s false = false) ∨ (st.1 = 2 ∧ readyA s false = false ∧ readyA s true = false))) (fun st _ => (2 - st.1).toNat) ⟨Keep.refl _ _, Or.inl rfl⟩ ?_
  rintro _ ⟨i, u⟩ w1 ⟨k1, hi⟩
  simp only at hi ⊢
  have h1 := h.keep0 k1
  rcases hi with hi | ⟨hi, r0⟩ | ⟨hi, r0, r1⟩
  · subst hi
    refine (Cb_true (q := _)).2 ?_
    refine ar_ready h1 false fun w2 k2 => OpB_bool.2 ?_
    cases hr : readyA s false with
    | true =>
      rw [hr, if_pos rfl] at hK
      exact (Cb_true (q := _)).2 (Ret_nil.2 (hK w2 (k1.trans k2)))
    | false => exact (Cb_false (p := _)).2 ⟨_, by decide, ⟨k1.trans k2, Or.inr (Or.inl ⟨by decide, rfl⟩)⟩, rfl⟩
  · subst hi
    refine (Cb_true (q := _)).2 ?_
    refine ar_ready h1 true fun w2 k2 => OpB_bool.2 ?_
    rw [r0, if_neg (by decide)] at hK
    cases hr : readyA s true with
    | true =>
      rw [hr, if_pos rfl] at hK
      exact (Cb_true (q := _)).2 (Ret_nil.2 (hK w2 (k1.trans k2)))
    | false => exact (Cb_false (p := _)).2 ⟨_, by decide, ⟨k1.trans k2, Or.inr (Or.inr ⟨by decide, r0, rfl⟩)⟩, rfl⟩
  · subst hi
    refine (Cb_false (p := _)).2 ?_
    rw [r0, r1, if_neg (by decide), if_neg (by decide)] at hK
    exact Ret_nil.2 (hK w1 k1)
theorem ar_begin (h : ArAt w q lk s) (hK : ∀ w', Keep (fun _ => False) w w' → R (if s.ps.pw.on = false then .tuple #[.int .i64 0, .int .i64 4] else match firstA s with
      | some f => .tuple #[.int .i64 (sideN f), .int .i64 0]
      | none => .tuple #[.int .i64 0, .int .i64 13]) w') : CallV Tryz.prog 85 #[.pointer (some ⟨q.a, 0, none⟩)] w R := by
  apply C_array_Array_begin
  unfold F_array_Array_begin
  refine ar_on h (ma_On h.pair.main (OpB_bool.2 ?_))
  cases hon : s.ps.pw.on with
  | false =>
    rw [hon, if_pos rfl] at hK
    exact (Cb_true (q := _)).2 (Ret_nil.2 (hK w (Keep.refl _ _)))
  | true =>
    rw [hon, if_neg (by decide)] at hK
    refine (Cb_false (p := _)).2 ?_
    refine ar_first h fun w1 k1 => T2_mk.2 (OpI_int.2 (OpB_bool.2 ?_))
    cases hf : firstA s with
    | some f =>
      rw [hf] at hK
      exact (Cb_false (p := _)).2 (Ret_nil.2 (hK w1 k1))
    | none =>
      rw [hf] at hK
      exact (Cb_true (q := _)).2 (Ret_nil.2 (hK w1 k1))
theorem ar_beginOk (h : ArAt w q lk s) {f : Bool} (hon : s.ps.pw.on = true) (hf : firstA s = some f) (hK : ∀ w', Keep (fun _ => False) w w' → R (.tuple #[.int .i64 (sideN f), .int .i64 0]) w') : CallV Tryz.prog 85 #[.pointer (some ⟨q.a, 0, none⟩)] w R := by
  refine ar_begin h fun w' k => ?_
  rw [if_neg (by rw [hon]; decide), hf]
  exact hK w' k
theorem ar_off (h : ArAt w q lk s) : ∀ b o, q.sp = some ⟨b, o, none⟩ → ¬ SFoot q.sb b := fun b o hb hi => by
  rcases Own.cases h.disks with ⟨h0, _⟩ | ⟨b', cur, h0, _, hg, _⟩
  · rw [h0] at hb; cases hb
  · rw [h0] at hb; cases hb
    exact h.set.typ hg (by decide) (by decide) (by decide) hi
theorem ar_Rebuild (h : ArAt w q 0 s) (hon : s.ps.pw.on = true) (hok : ∀ D ∈ s.ds, DskOk D) {n : Nat} (hn : (n : Int) < q.g.d) {f : Bool} (hf : firstA s = some f) (ha : upA s (!f) = false ∨ (livesA s (!f) = true ∧ s.split = false)) (hal : deadS s.ss n = false) {m c : Int} (hc : 0 ≤ c) (hm : s.marks[n]? = some m) (hmr : 0 ≤ m ∧ m ≤ q.g.c * q.g.s) (he : (rebS q.g s.ss n m c (epA s f)).2.1 = 0)
    (h1' : 0 ≤ (rebS q.g s.ss n m c (epA s f)).1 ∧ (rebS q.g s.ss n m c (epA s f)).1 ≤ 1000000)
    (hK : ∀ w', ArAt w' q 0 (rebA q s n m c (epA s f)) → Keep (ArG q w) w w' → R (.tuple #[.int .i64 (q.g.c * q.g.s - (rebS q.g s.ss n m c (epA s f)).1), .int .i64 0]) w') :
    CallV Tryz.prog 68 #[.pointer (some ⟨q.a, 0, none⟩), .int .i64 (n : Int), .int .i64 c] w R := by
  apply C_array_Array_Rebuild
  unfold F_array_Array_Rebuild
  have hnum : (s.ds.length : Int) = q.g.d := h.set.num
  obtain ⟨b, r, D, hb, hD, hdk, hdl⟩ := h.set.get (i := n) (show n < s.ss.ds.length by show n < s.ds.length; omega)
  have hb : q.bks[n]? = some (b, r) := hb
  have hDg : s.ds.getD n dsk0 = D := by
    have hD : s.ds[n]? = some D := hD
    rw [List.getD_eq_getElem?_getD, hD]; rfl
  have hgd := h.set.geo.d
  have hgd : 4 ≤ q.g.d ∧ q.g.d ≤ 32 := hgd
  have hsz := h.set.geo.size
  have hsz : 1 ≤ q.g.c * q.g.s ∧ q.g.c * q.g.s ≤ 512 := hsz
  refine ar_disk h hon hb (T2_mk.2 (OpP_some.2 (OpI_int.2 ((Cb_false (p := _)).2 ?_))))
  rw [decide_eq_false (show ¬ c < 0 by omega)]
  refine (Cb_false (p := _)).2 ?_
  refine ar_lock h fun w1 h1 k1 => ?_
  refine ar_beginOk h1 hon hf fun w2 k2 => T2_mk.2 (OpI_int.2 (OpI_int.2 ((Cb_false (p := _)).2 ?_)))
  have h2 := h1.keep0 k2
  have k02 : Keep (ArF q w) w w2 := ArF.trans (k1.mono fun i e => Or.inl e) (ArF.none k2)
  clear h1 k1 k2
  refine ar_alone0 h2 f ha (OpI_int.2 ((Cb_false (p := _)).2 ?_))
  refine LdV_has (v := .slice q.sp q.g.d.toNat q.sc) h2.cells rfl (OpS_slice.2 ?_)
  refine h2.disks.ld0 (x := b) rfl (by omega) (by rw [Int.toNat_natCast, List.getElem?_map, hb]; rfl) rfl (OpN_some.2 ?_)
  obtain ⟨hdk2, _⟩ := h2.set.disks n (b, r) D hb hD
  refine d_Alive hdk2 (OpB_bool.2 ?_)
  have hDd : D.dead = false := by
    unfold deadS at hal
    rw [Int.toNat_natCast] at hal
    have hal : (s.ds.getD n dsk0).dead = false := hal
    rw [hDg] at hal
    exact hal
  rw [hDd]
  refine (Cb_false (p := _)).2 ?_
  intro d
  have kd := Keep.drew (fun _ => False) w2 d
  have h3 := h2.keep0 kd
  have k03 := ArF.trans k02 (ArF.none kd)
  clear h2 k02
  generalize w2.dr d = w3 at *
  refine ⟨fun w' => Has w' q.a (.cells (arC q 1 s) 143 (0, 0)), h3.cells, ?_⟩
  refine LdA_has (cs := setV q.g q.sp q.g.d.toNat q.sc) h3.cells (by show 3 + 4 ≤ 21; decide) (arC_set q 1 s) ?_
  refine LdV_of (v := .slice q.ms q.g.d.toNat q.mc) (fun w' hw => ⟨_, _, _, hw, rfl⟩) (OpS_slice.2 ?_)
  refine h3.marks.ld0 (x := m) rfl (by omega) (by rw [Int.toNat_natCast]; exact hm) rfl (OpI_int.2 ⟨side_rng f, ?_⟩)
  refine LdV_has (v := .int .u32 (epA s f)) h3.cells (by cases f <;> rfl) (OpI_int.2 ?_)
  have hd0 : deadS s.ss (n : Int) = false := hal
  refine sc_Rebuild (q := q.sb) h3.set h3.disks.sl h3.disks.cap.1 (ar_off h3) hok (i := (n : Int)) (m := m) (n := c) (by omega) (by omega) (fun hb => absurd ⟨⟨by omega, hn⟩, hmr, hc⟩ hb) (fun hd => absurd hd (by rw [hd0]; decide)) fun _ _ _ _ w4 hS4 k4 => ?_
  have hS4 : SetAt w4 q.sb (rebS q.g s.ss n m c (epA s f)).2.2 := hS4
  have h4 := h3.ofSet hS4 k4
  show T2 (.tuple #[.int .i64 (rebS q.g s.ss n m c (epA s f)).1, .int .i64 (rebS q.g s.ss n m c (epA s f)).2.1]) _
  unfold rebA at hK
  generalize rebS q.g s.ss n m c (epA s f) = x at *
  have k04 : Keep (ArF q w) w w4 := ArF.trans k03 (k4.mono fun i e => Or.inr (Or.inl e))
  have hc4 : Has w4 q.a (.cells (arC q 1 s) 143 (0, 0)) := k4.has h3.cells (h3.set.typ h3.cells (by decide) (by decide) (by decide))
  refine T2_mk.2 (OpI_int.2 (OpI_int.2 ⟨hc4, ?_⟩))
  refine LdV_has (v := .slice q.ms q.g.d.toNat q.mc) hc4 rfl (OpS_slice.2 ?_)
  refine h4.marks.stF (t := 0) (x := m) (y := x.1) (v := .int .i64 x.1) rfl (by omega) (by rw [Int.toNat_natCast]; exact hm) (by decide) rfl rfl fun w5 o5 k5 z5 => ?_
  rw [Int.toNat_natCast] at o5
  have h5 := h4.mark o5 k5
  have k05 : Keep (ArG q w) w w5 := (ArG.ofF k04).trans (k5.mono fun i e => Or.inr e)
  rw [he]
  refine (Cb_false (p := _)).2 ?_
  refine LdA_has (cs := geoV q.g) h5.cells (by show 3 + 3 ≤ 21; decide) rfl ?_
  refine l_Size h5.set.geo fun w6 k6 => T2_mk.2 (OpI_int.2 (OpI_int.2 ?_))
  refine ar_unlock (h5.keep0 k6) fun w7 h7 k7 => ?_
  rw [wrapI (by omega) (by omega)]
  refine hK w7 h7 ((k05.trans' k6 fun i hi e => e.elim).trans' k7 fun i hi e => Or.inl (Or.inl e))
/-- what Replace leaves -/
def replK (s : AS) (n : Nat) : AS := { s with ds := s.ds.set n { replD (s.ds.getD n dsk0) with key := max 0 (keyS s.ss) }, marks := s.marks.set n 0 }
theorem ar_Replace (h : ArAt w q lk s) (hon : s.ps.pw.on = true) {n : Nat} (hn : (n : Int) < q.g.d) (hkey : keyS s.ss ≤ 4294967295)
    (hK : ∀ bks w', (∀ N, ArFrom q N → N ≤ w.heap.size → ArFrom { q with bks := bks } N) → ArAt w' { q with bks := bks } lk (replK s n) → Keep (ArG q w) w w' → R (.int .i64 0) w') :
    CallV Tryz.prog 67 #[.pointer (some ⟨q.a, 0, none⟩), .int .i64 (n : Int)] w R := by
  apply C_array_Array_Replace
  unfold F_array_Array_Replace
  have hnum : (s.ds.length : Int) = q.g.d := h.set.num
  obtain ⟨b, r, D, hb, hD, hdk, hdl⟩ := h.set.get (i := n) (show n < s.ss.ds.length by show n < s.ds.length; omega)
  have hb : q.bks[n]? = some (b, r) := hb
  have hdl : (D.secs.length : Int) = q.g.c * q.g.s := hdl
  have hDg : s.ds.getD n dsk0 = D := by
    have hD : s.ds[n]? = some D := hD
    rw [List.getD_eq_getElem?_getD, hD]; rfl
  have hgd := h.set.geo.d
  have hgd : 4 ≤ q.g.d ∧ q.g.d ≤ 32 := hgd
  have hsz := h.set.geo.size
  have hsz : 1 ≤ q.g.c * q.g.s ∧ q.g.c * q.g.s ≤ 512 := hsz
  have hml : s.marks.length = q.g.d.toNat := h.marks.length.symm
  refine ar_disk h hon hb (T2_mk.2 (OpP_some.2 (OpI_int.2 ((Cb_false (p := _)).2 ?_))))
  refine LdA_has (cs := setV q.g q.sp q.g.d.toNat q.sc) h.cells (by show 3 + 4 ≤ 21; decide) (arC_set q lk s) ?_
  refine st_Key (q := q.sb) h.set h.disks.sl h.disks.cap.1 fun w2 k2 => OpI_int.2 ?_
  have h2 := h.keep0 k2
  obtain ⟨hdk2, _⟩ := h2.set.disks n (b, r) D hb hD
  refine d_Replace hdk2 (by omega) fun w3 hd3 k3 => ?_
  obtain ⟨hfst, hS3⟩ := SetAt.repl (m := q.pb.m) (g := q.g) (bks := q.bks) h2.set hb hdk2 (D' := replD D) (by rw [replD_len]; exact hdl) hd3 k3
  have hbm : SFoot q.sb b := Or.inr (Or.inl (List.mem_map.2 ⟨(b, r), List.mem_of_getElem? hb, rfl⟩))
  have h3 := h2.ofSetQ hfst hS3 (k3.mono fun i e => by rw [e]; exact hbm)
  have k03 : Keep (ArF q w) w w3 := (ArF.none k2).trans' k3 fun i hi e => Or.inr (Or.inl (by rw [e]; exact hbm))
  have hlow : w.heap.size ≤ w2.heap.size := k2.size
  generalize hbks : q.bks.set n (b, w2.heap.size) = bks at *
  have hbk3 : bks[n]? = some (b, w2.heap.size) := by
    rw [← hbks, List.getElem?_set_self (List.getElem?_eq_some_iff.1 hb).1]
  have hfrom : ∀ N, ArFrom q N → N ≤ w.heap.size → ArFrom { q with bks := bks } N := fun N hf hN => by
    refine ⟨hf.a, hf.dk, hf.p, hf.mp, hf.m, hf.ra, hf.rb, hf.base, fun br hbr => ?_⟩
    have hbr : br ∈ bks := hbr
    rw [← hbks] at hbr
    rcases List.mem_or_eq_of_mem_set hbr with hbr | rfl
    · exact hf.disks br hbr
    · exact ⟨(hf.disks (b, r) (List.mem_of_getElem? hb)).1, by show N ≤ w2.heap.size; omega⟩
  refine LdV_has (v := .slice q.ms q.g.d.toNat q.mc) h3.cells rfl (OpS_slice.2 ?_)
  obtain ⟨m0, hm0⟩ : ∃ m0, s.marks[n]? = some m0 := ⟨_, List.getElem?_eq_getElem (by omega)⟩
  refine h3.marks.stF (t := 0) (x := m0) (y := 0) (v := .int .i64 0) rfl (by omega) (by rw [Int.toNat_natCast]; exact hm0) (by decide) rfl rfl fun w4 o4 k4 z4 => ?_
  rw [Int.toNat_natCast] at o4
  have h4 := h3.mark o4 k4
  have k04 : Keep (ArG q w) w w4 := (ArG.ofF k03).trans (k4.mono fun i e => Or.inr e)
  have hlt : n < s.ds.length := by omega
  obtain ⟨hdk4, hdl4⟩ := h4.set.disks n (b, w2.heap.size) (replD D) hbk3 (by show (s.ds.set n (replD D))[n]? = _; rw [List.getElem?_set_self hlt])
  have hkn := keyS_nn s.ss
  refine d_Fence hdk4 h4.set.main (by show 0 ≤ (0 : Int) ∧ (0 : Int) ≤ 4294967295; decide) ⟨hkn, hkey⟩ fun w5 hd5 k5 => ?_
  have hfe : fenceD s.ps.pw (replD D) (keyS s.ss) = (0, { replD D with key := max 0 (keyS s.ss) }) := by
    unfold fenceD
    rw [if_neg (by rw [hon]; decide), if_neg (by show ¬ (false = true); decide)]
    rfl
  have hd5 : DiskAt w5 q.pb.m b w2.heap.size (fenceD s.ps.pw (replD D) (keyS s.ss)).2 := hd5
  rw [hfe] at hd5
  show OpI .i64 (.int .i64 (fenceD s.ps.pw (replD D) (keyS s.ss)).1) _
  rw [hfe]
  have hbm5 : SFoot ({ q with bks := bks } : AB).sb b := Or.inr (Or.inl (List.mem_map.2 ⟨(b, w2.heap.size), List.mem_of_getElem? hbk3, rfl⟩))
  have hS5 := h4.set.upd hbk3 (k5.mono fun i e => Or.inr (Or.inl e)) hd5 (by show (((replD D).secs.length : Nat) : Int) = _; rw [replD_len]; exact hdl) (k5.has (show Has w4 _ _ from h4.set.main) fun e => (hdk4.nem h4.set.main).1 e.symm)
  have h5 := h4.ofSet hS5 (k5.mono fun i e => by rw [e]; exact hbm5)
  have e5 : ({ s with ds := (s.ds.set n (replD D)).set n { replD D with key := max 0 (keyS s.ss) }, ps := { s.ps with pw := s.ps.pw }, marks := s.marks.set n 0 } : AS) = replK s n := by
    unfold replK
    rw [List.set_set, hDg]
  have h5 : ArAt w5 { q with bks := bks } lk { s with ds := (s.ds.set n (replD D)).set n { replD D with key := max 0 (keyS s.ss) }, ps := { s.ps with pw := s.ps.pw }, marks := s.marks.set n 0 } := h5
  rw [e5] at h5
  exact OpI_int.2 (Ret_nil.2 (hK bks w5 hfrom h5 (k04.trans (k5.mono fun i e => Or.inl (Or.inr (Or.inl (by rw [e]; exact hbm)))))))
theorem replK_zero {g : Geo} {s : AS} {now : Int → Sec} (h : GoodE g s.ss now 0) (n : Nat) : replK s n = replA s n := by
  unfold replK replA
  rw [keyS_zero h]
  rfl
end calls
end Go.Proofs

namespace Go.Proofs
open Go Go.Ev
set_option linter.unusedSimpArgs false
set_option linter.unusedVariables false
set_option maxRecDepth 100000
section calls
variable {w : World} {q : AB} {lk : Int} {s : AS} {R : Value → World → Prop}
/-- sectors go out as long as there is no room; Iv: what holds meanwhile -/
theorem ar_putI (h : ArAt w q lk s) (f : Bool) {lba : Int} {d : Sec} (Iv Bad : AS → Prop) (h0 : Iv s)
    (hout : ∀ (s1 : AS) (w1 : World) (R1 : Value → World → Prop), Iv s1 → ArAt w1 q lk s1 → (getV s1.ps.es lba).2.2 ≠ 0 → q.pb.room ≤ (s1.ps.es.length : Int) → (∀ e s2 w2, ArAt w2 q lk s2 → Keep (ArF q w1) w1 w2 → (e = 0 ∧ Iv s2 ∧ s2.ps.es.length < s1.ps.es.length ∨ e ≠ 0 ∧ Bad s2) → R1 (.int .i64 e) w2) →
      CallV Tryz.prog 84 #[.pointer (some ⟨q.a, 0, none⟩), .int .i64 (sideN f)] w1 R1)
    (hr : ∀ s1, Iv s1 → ∀ g, upA s1 g = true → 64 ≤ (q.pb.sz - ((xsA s1.ps g).length : Int)) / 37)
    (hK : ∀ s1 w', Iv s1 → ((getV s1.ps.es lba).2.2 = 0 ∨ (s1.ps.es.length : Int) < q.pb.room) → ArAt w' q lk { s1 with ps := (putP q.pb.room q.pb.sz s1.ps f lba d).2 } → Keep (ArF q w) w w' → R (.int .i64 (putP q.pb.room q.pb.sz s1.ps f lba d).1.2) w')
    (hB : ∀ e s2 w', e ≠ 0 → Bad s2 → ArAt w' q lk s2 → Keep (ArF q w) w w' → R (.int .i64 e) w') :
    CallV Tryz.prog 82 #[.pointer (some ⟨q.a, 0, none⟩), .int .i64 (sideN f), .int .i64 lba, .agg (secV d)] w R := by
  apply C_array_Array_put
  unfold F_array_Array_put
  refine alc_fresh fun w1 hb1 k1 z1 => ?_
  refine ⟨fun m _ w' => ∃ s', s'.ps.es.length = m ∧ Iv s' ∧ ArAt w' q lk s' ∧ Has w' w.heap.size (.cells (secV d) 37 (0, 0)) ∧ Keep (ArF q w) w w', ⟨_, s, rfl, h0, h.keep0 k1, hb1, ArF.none k1⟩, ?_⟩
  clear h0 hb1
  rintro _ m _ w2 ⟨s', hm, hv, h2, hb2, k02⟩
  refine LdV_has (v := .pointer (some ⟨q.pb.p, 0, none⟩)) h2.cells rfl (OpN_some.2 ?_)
  refine pr_Get h2.pair fun w3 k3 => T3_mk.2 (OpA_agg.2 ⟨rfl, OpI_int.2 (OpI_int.2 ?_)⟩)
  refine copy_of (by rw [zc_sec]; rfl) rfl (one_secV _) fun w5 hb5 k5 z5 => ?_
  have k25 := k3.trans k5
  have h5 := h2.keep0 k25
  have hbd := k25.has hb2 (by simp)
  have k05 := ArF.trans k02 (ArF.none k25)
  refine ⟨fun st w' => (∃ dd, w' = w5.dr dd) ∧ (st.1 = true → ((getV s'.ps.es lba).2.2 = 0 ∨ (s'.ps.es.length : Int) < q.pb.room)) ∧ (st.1 = false → (getV s'.ps.es lba).2.2 ≠ 0 ∧ q.pb.room ≤ (s'.ps.es.length : Int)), ?_, ?_⟩
  · refine Cb_of (fun hc => ⟨⟨w5.drawn, rfl⟩, fun _ => Or.inl (by simpa using hc), fun e => by cases e⟩) (fun hc => ?_)
    have hc : ¬ (getV s'.ps.es lba).2.2 = 0 := by simpa using hc
    refine LdV_has (v := .pointer (some ⟨q.pb.p, 0, none⟩)) h5.cells rfl (OpN_some.2 ?_)
    refine pr_Full h5.pair fun dd => OpB_bool.2 ⟨⟨dd, rfl⟩, fun e => Or.inr ?_, fun e => ⟨hc, ?_⟩⟩
    · simp at e; omega
    · simp at e; omega
  rintro _ ⟨g, u⟩ w6 ⟨⟨dd, rfl⟩, hT, hF⟩
  have h6 := h5.keep0 (Keep.drew _ w5 dd)
  have hb6 : Has (w5.dr dd) w.heap.size (.cells (secV d) 37 (0, 0)) := hbd
  have k06 := ArF.trans k05 (ArF.none (Keep.drew _ w5 dd))
  generalize w5.dr dd = w6 at *
  refine Cb_of (fun hg => ?_) (fun hg => ?_)
  · refine ar_shorten0 h6 (hr s' hv) fun w7 k7 => OpI_int.2 ((Cb_false (p := _)).2 fun d2 => ?_)
    have k7 := k7.dr d2
    have h7 := h6.keep0 k7
    have hb7 : Has (w7.dr d2) w.heap.size (.cells (secV d) 37 (0, 0)) := k7.has hb6 (by simp)
    have k07 := ArF.trans k06 (ArF.none k7)
    generalize w7.dr d2 = w8 at *
    refine ⟨fun _ => True, trivial, ?_⟩
    refine LdV_has (v := .pointer (some ⟨q.pb.p, 0, none⟩)) h7.cells rfl (OpN_some.2 ?_)
    refine LdA_all hb7 rfl ?_
    refine pr_Put h7.pair f fun w9 hp k9 => T2_mk.2 (OpI_int.2 (OpI_int.2 ⟨trivial, Ret_nil.2 ?_⟩))
    exact hK s' w9 hv (hT hg) (h7.ofPair hp k9) (ArF.trans k07 (k9.mono fun i e => PFoot.arF e))
  · obtain ⟨f1, f2⟩ := hF hg
    refine hout s' w6 _ hv h6 f1 f2 fun e s2 w7 h7 k7 hor => OpI_int.2 ?_
    have k07 := ArF.trans k06 k7
    have hb7 := k7.has hb6 (ArF.not h6 hb6 (by decide) (by decide) (by decide) (by decide) (by decide) (by decide) (by decide))
    rcases hor with ⟨he, hv2, hlt⟩ | ⟨he, hbad⟩
    · subst he
      exact (Cb_false (p := _)).2 ⟨_, by rw [← hm]; exact hlt, s2, rfl, hv2, h7, hb7, k07⟩
    · have e3 : (e != 0) = true := by simpa using he
      rw [e3]
      exact (Cb_true (q := _)).2 (Ret_nil.2 (hB e s2 w7 he hbad h7 k07))
end calls
end Go.Proofs

namespace Go.Proofs
open Go Go.Ev Go.RowKit
set_option linter.unusedSimpArgs false
set_option linter.unusedVariables false
set_option maxRecDepth 100000
section calls
variable {w : World} {R : Value → World → Prop}
theorem own_arF {w w' : World} {q : AB} {lk : Int} {s : AS} (h : ArAt w q lk s) (k : Keep (ArF q w) w w') {b : Nat} {p : Option Addr} {l c : Nat} {xs : List Sec} (o : OwnL secLay w b 37 p l c xs) : OwnL secLay w' b 37 p l c xs :=
  o.keep k fun b hb => by
    obtain ⟨_, cur, hh⟩ := own_has o b 0 hb
    exact ArF.not h hh (by decide) (by decide) (by decide) (by decide) (by decide) (by decide) (by decide)
end calls
end Go.Proofs

namespace Go.Proofs
open Go.Ev
set_option linter.unusedVariables false
set_option maxRecDepth 100000
def F_ravelinlaw20_ArrayRebuilds (x : Int) (y : Int) (z : Int) (lbasp : Option Addr) (lbasl : Nat) (lbasc : Nat) (d : Int) (piecesp : Option Addr) (piecesl : Nat) (piecesc : Nat) (w : World) (R : Value → World → Prop) : Prop :=
  CallV Tryz.prog 65 #[.int .u8 x, .int .u8 y, .int .u8 z] w fun v w => OpA 3 v fun cs => Alc 24 (zc Tryz.prog 24) w fun b w => StA 3 b 0 cs w fun w => LdA 3 b 0 (At w) fun
  cs1 => CallV Tryz.prog 13 #[.agg cs1, .int .i64 3] w fun v1 w => T2 v1 fun v2 v3 => OpN v2 fun b1 o => OpI .i64 v3 fun n => CallV Tryz.prog 63 #[] w fun v4 w => OpB v4 fun
  g => Req ((!g) = (!g)) (Req ((!g) = (!g)) (Req ((cond (!g) true (n != 0)) = (cond (!g) true (n != 0))) (Req ((cond (!g) true (n != 0)) = (cond (!g) true (n != 0))) (Cb
  (cond (cond (!g) true (n != 0)) true false) (Ret [] (R (.bool false) w)) (HeldR w fun S w => LdV b 1 S fun v5 => OpI .i64 v5 fun n1 => LdV b 2 S fun v6 => OpI .i64 v6 fun
  n2 => CallV Tryz.prog 15 #[.pointer (some ⟨b1, o, none⟩)] w fun v7 w => OpI .i64 v7 fun n3 => Hld (S w) (DoV Tryz.prog (Instr.makeSlice 32 (.int .i64 n3) (.int .i64 n3)) w
  fun v8 w => OpS v8 fun p l c => LdV b 0 (At w) fun v9 => OpI .i64 v9 fun n4 => Req (n4 ≠ 0) (JoinC (σ := (Option Addr × Nat × Nat) × Unit) (fun J1 => Cb (decide (((lbasl :
  Nat) : Int) > 40)) (Slc lbasl lbasc none (some 40) none fun l1 h m => J1 ((slcP 1 l1 m lbasp, h - l1, m - l1), ()) w) (J1 ((lbasp, lbasl, lbasc), ()) w)) (fun _ s1 w =>
  LoopC (σ := Int × Int × Unit) (fun _ s2 w K2 => Cb (decide (s2.2.1 < ((s1.1.2.1 : Nat) : Int))) (JoinC (σ := Bool × Unit) (fun J3 => Req ((3 : Int) ≠ 0) (Cb (s2.2.1 ==
  (IntKind.wrap .i64 (Int.tdiv ((s1.1.2.1 : Nat) : Int) 3))) (CallV Tryz.prog 20 #[.pointer (some ⟨b1, o, none⟩), .int .i64 (Int.tmod (IntKind.wrap .i64 d) n4)] w fun v10 w
  => OpI .i64 v10 fun n5 => Cb (n5 != 0) (J3 (true, ()) w) (Req ((2 : Int) ≠ 0) (Cb (s2.2.1 == (IntKind.wrap .i64 (Int.tdiv ((s1.1.2.1 : Nat) : Int) 2))) (CallV Tryz.prog 67
  #[.pointer (some ⟨b1, o, none⟩), .int .i64 (Int.tmod (IntKind.wrap .i64 d) n4)] w fun v11 w => OpI .i64 v11 fun n6 => J3 (n6 != 0, ()) w) (J3 (false, ()) w)))) (Req ((2 :
  Int) ≠ 0) (Cb (s2.2.1 == (IntKind.wrap .i64 (Int.tdiv ((s1.1.2.1 : Nat) : Int) 2))) (CallV Tryz.prog 67 #[.pointer (some ⟨b1, o, none⟩), .int .i64 (Int.tmod (IntKind.wrap
  .i64 d) n4)] w fun v12 w => OpI .i64 v12 fun n7 => J3 (n7 != 0, ()) w) (J3 (false, ()) w))))) (fun _ s3 w => Cb s3.1 (Ret [] (R (.bool false) w)) (IdxS s1.1.1 s1.1.2.1
  s2.2.1 1 fun b2 o1 => LdV b2 o1 (At w) fun v13 => OpI .u8 v13 fun n8 => Req (n3 ≠ 0) (DoQ Tryz.prog (Instr.build 37 #[(0, .int .u8 (IntKind.wrap .u8 (IntKind.wrap .i64
  (s2.2.1 + 1)))), (1, .int .u8 (IntKind.wrap .u8 (Int.tmod (IntKind.wrap .i64 n8) n3)))]) (At w) fun v14 => OpA 16 v14 fun cs2 => IdxS p l (Int.tmod (IntKind.wrap .i64 n8)
  n3) 16 fun b3 o2 => StA 16 b3 o2 cs2 w fun w => Req ((2 : Int) ≠ 0) (IdxS p l (Int.tmod (IntKind.wrap .i64 n8) n3) 16 fun b4 o3 => LdA 16 b4 o3 (At w) fun cs3 => DoV
  Tryz.prog (Instr.buildSlice 32 1 #[(0, .agg cs3)]) w fun v15 w => OpS v15 fun p1 l2 c1 => DoQ Tryz.prog (Instr.build 41 #[(0, .int .i64 3), (1, .int .i64 (Int.tmod
  (IntKind.wrap .i64 n8) n3)), (3, .slice p1 l2 c1)]) (At w) fun v16 => OpA 7 v16 fun cs4 => CallV Tryz.prog 16 #[.pointer (some ⟨b1, o, none⟩), .int .i64 (Int.tmod s2.2.1
  2), .int .i64 0, .agg cs4] w fun v17 w => OpA 3 v17 fun cs5 => Alc 34 (zc Tryz.prog 34) w fun b5 w => StA 3 b5 0 cs5 w fun w => LdV b5 0 (At w) fun v18 => OpI .i64 v18 fun
  n9 => Cb (n9 != 1) (Ret [] (R (.bool false) w)) (Req ((2 : Int) ≠ 0) (Cb (decide (s2.2.1 ≥ IntKind.wrap .i64 (Int.tdiv ((s1.1.2.1 : Nat) : Int) 2))) (JoinC (σ := Int ×
  Unit) (fun J4 => Cb (decide (s2.2.1 < ((piecesl : Nat) : Int))) (IdxS piecesp piecesl s2.2.1 1 fun b6 o4 => LdV b6 o4 (At w) fun v19 => OpI .u8 v19 fun n10 => Req ((3 :
  Int) ≠ 0) (CallV Tryz.prog 68 #[.pointer (some ⟨b1, o, none⟩), .int .i64 (Int.tmod (IntKind.wrap .i64 d) n4), .int .i64 (IntKind.wrap .i64 (Int.tmod n10 3))] w fun v20 w
  => T2 v20 fun v21 v22 => OpI .i64 v21 fun n11 => OpI .i64 v22 fun n12 => Cb (n12 != 0) (Ret [] (R (.bool false) w)) (DoQ Tryz.prog (Builtin.max_ #[3, 3] 3 #[.int .i64 0,
  .int .i64 (IntKind.wrap .i64 (s2.1 - (IntKind.wrap .i64 (Int.tmod n10 3))))]) (At w) fun v23 => OpI .i64 v23 fun n13 => Cb (n11 != n13) (Ret [] (R (.bool false) w)) (J4
  (n11, ()) w)))) (J4 (s2.1, ()) w)) (fun _ s4 w => K2 (s4.1, (IntKind.wrap .i64 (s2.2.1 + 1), ())) w)) (JoinC (σ := Int × Unit) (fun J5 => J5 (s2.1, ()) w) (fun _ s5 w =>
  K2 (s5.1, (IntKind.wrap .i64 (s2.2.1 + 1), ())) w))))))))) (JoinC (σ := Bool × Unit) (fun J6 => Cb (((s1.1.2.1 : Nat) : Int) == 0) (CallV Tryz.prog 67 #[.pointer (some
  ⟨b1, o, none⟩), .int .i64 (Int.tmod (IntKind.wrap .i64 d) n4)] w fun v24 w => OpI .i64 v24 fun n14 => J6 (n14 != 0, ()) w) (J6 (false, ()) w)) (fun _ s6 w => Cb s6.1 (Ret
  [] (R (.bool false) w)) (CallV Tryz.prog 68 #[.pointer (some ⟨b1, o, none⟩), .int .i64 (Int.tmod (IntKind.wrap .i64 d) n4), .int .i64 (IntKind.wrap .i64 (n1 * n2))] w fun
  v25 w => T2 v25 fun v26 v27 => OpI .i64 v26 fun n15 => OpI .i64 v27 fun n16 => Req ((n16 != 0) = (n16 != 0)) (Req ((n16 != 0) = (n16 != 0)) (Cb (cond (n16 != 0) true (n15
  != 0)) (Ret [] (R (.bool false) w)) (DoQ Tryz.prog (Instr.build 41 #[(0, .int .i64 4)]) (At w) fun v28 => OpA 7 v28 fun cs6 => CallV Tryz.prog 16 #[.pointer (some ⟨b1, o,
  none⟩), .int .i64 0, .int .i64 0, .agg cs6] w fun v29 w => OpA 3 v29 fun cs7 => Fld cs7 0 fun v30 => OpI .i64 v30 fun n17 => Cb (n17 != 1) (Ret [] (R (.bool false) w))
  (LdV b 0 (At w) fun v31 => OpI .i64 v31 fun n18 => Req (n18 ≠ 0) (CallV Tryz.prog 20 #[.pointer (some ⟨b1, o, none⟩), .int .i64 (Int.tmod (IntKind.wrap .i64 ((Int.tmod
  (IntKind.wrap .i64 d) n4) + 1)) n18)] w fun v32 w => OpI .i64 v32 fun n19 => Cb (n19 != 0) (Ret [] (R (.bool false) w)) (LdV b 0 (At w) fun v33 => OpI .i64 v33 fun n20 =>
  Req (n20 ≠ 0) (CallV Tryz.prog 20 #[.pointer (some ⟨b1, o, none⟩), .int .i64 (Int.tmod (IntKind.wrap .i64 ((Int.tmod (IntKind.wrap .i64 d) n4) + 2)) n20)] w fun v34 w =>
  OpI .i64 v34 fun n21 => Cb (n21 != 0) (Ret [] (R (.bool false) w)) (LoopC (σ := Int × Unit) (fun _ s7 w K7 => Cb (decide (s7.1 < n3)) (DoQ Tryz.prog (Instr.build 41 #[(0,
  .int .i64 2), (1, .int .i64 s7.1), (2, .int .i64 1)]) (At w) fun v35 => OpA 7 v35 fun cs8 => CallV Tryz.prog 16 #[.pointer (some ⟨b1, o, none⟩), .int .i64 1, .int .i64 0,
  .agg cs8] w fun v36 w => OpA 3 v36 fun cs9 => Alc 34 (zc Tryz.prog 34) w fun b7 w => StA 3 b7 0 cs9 w fun w => LdV b7 0 (At w) fun v37 => OpI .i64 v37 fun n22 => Cb (n22
  != 1) (Drw w fun w => Ret [] (R (.bool false) w)) (LdV b7 2 (At w) fun v38 => OpS v38 fun p2 l3 c2 => Cb (((l3 : Nat) : Int) != 1) (Drw w fun w => Ret [] (R (.bool false)
  w)) (LdV b7 2 (At w) fun v39 => OpS v39 fun p3 l4 c3 => IdxS p3 l4 0 16 fun b8 o5 => LdA 16 b8 o5 (At w) fun cs10 => IdxS p l s7.1 16 fun b9 o6 => LdA 16 b9 o6 (At w) fun
  cs11 => EqB Tryz.prog .neq 37 (.tmp 235) (.tmp 239) (.agg cs10 : Value) (.agg cs11 : Value) (At w) fun g1 => Drw w fun w => Cb g1 (Ret [] (R (.bool false) w)) (K7
  (IntKind.wrap .i64 (s7.1 + 1), ()) w)))) (Ret [] (R (.bool true) w))) (0, ()) w)))))))))))) (IntKind.wrap .i64 (n1 * n2), (0, ())) w))))))))
theorem C_ravelinlaw20_ArrayRebuilds {x : Int} {y : Int} {z : Int} {lbasp : Option Addr} {lbasl : Nat} {lbasc : Nat} {d : Int} {piecesp : Option Addr} {piecesl : Nat} {piecesc : Nat} {w : World} {R : Value → World → Prop} (h : F_ravelinlaw20_ArrayRebuilds x y z lbasp lbasl lbasc d piecesp piecesl piecesc w R) : CallV Tryz.prog 10 #[.int .u8 x, .int .u8 y, .int .u8 z, .slice lbasp lbasl lbasc, .int .u8 d, .slice piecesp piecesl piecesc] w R := by
  exact calls_of_F (args := [.int .u8 x, .int .u8 y, .int .u8 z, .slice lbasp lbasl lbasc, .int .u8 d, .slice piecesp piecesl piecesc]) (mkAnnR [(12, [(20, (.int .i64)), (21, (.int .i64))]), (33, [(28, (.int .i64))])] [] [(10, [(3, .slice)]), (22, [(20, (.int .i64))])] [] [50, 100036] [] [(14, [(98, .bool)]), (27, [(172, .bool)])]) Tryz_mixed Tryz.func10 rfl rfl (by kernel_rfl) h
end Go.Proofs

namespace Go.Proofs
open Go Go.Ev Go.RowKit
set_option linter.unusedSimpArgs false
set_option linter.unusedVariables false
set_option maxRecDepth 100000

theorem gate_rw1 {cap init : Int} {c : Cmd} (hk : c.k = 2 ∨ c.k = 3) (h1 : 1 ≤ cntC c) (h2 : cntC c ≤ 8) (h3 : 0 ≤ c.lba) (h4 : c.lba + cntC c ≤ cap) (h5 : 0 ≤ init ∧ init < 16) : (gateD dk0 cap init c).2 = false := by
  unfold gateD
  have e : cdE c cap = 0 := by
    unfold cdE
    rw [if_neg (by omega), if_neg (by omega)]
  rw [if_neg (by rw [e]; omega), if_neg (by omega)]
  show (!mayD dk0 init (decide (c.k = 3))) = false
  have : mayD dk0 init (decide (c.k = 3)) = true := by
    unfold mayD
    rw [if_neg (by unfold inD; omega)]
    rfl
  rw [this]; rfl
section wr
variable {w : World} {q : AB} {s : AS} {R : Value → World → Prop} {k ph : Nat} {left S A L : Int} {fin : Int → Sec}
theorem RbI.outC (hR : RbI q k ph left S A L fin s) (hz : q.pb.sz = 65536) (hA : A ≤ 60000) (hS : S ≤ 1000000) (hL : L ≤ 1000000) (hcap : capG20 q.g ≤ 100000) {lk : Int} (h : ArAt w q lk s) (f : Bool) (hne : s.ps.es ≠ [])
    (hK : ∀ p w', p ∈ s.ps.es → ArAt w' q lk (outA q s f p).2 → Keep (ArF q w) w w' → RbI q k ph left (S + 15) (A + 444) (L + 1) fin (outA q s f p).2 → (outA q s f p).2.ps.es = del s.ps.es p.1 → R (.int .i64 0) w') :
    CallV Tryz.prog 84 #[.pointer (some ⟨q.a, 0, none⟩), .int .i64 (sideN f)] w R := by
  obtain ⟨now, hg, _⟩ := hR.qv.good
  have hroom := hR.room
  refine ar_out0 h hg.ss.ok f (by omega) hne (fun e he => ?_) (fun g _ => hR.roomM hz hA g) fun p w' hp _ h' k' => ?_
  · obtain ⟨e1, e2, _⟩ := hR.qv.es e.1 e.2 (mem_look hR.qv.nd he)
    exact ⟨e1.1, e1.2, by rw [e2]; exact hR.qv.fok _⟩
  · obtain ⟨p1, p2, p3⟩ := hR.out hz hS hA hL f hp
    have := hK p w' hp h' k' p2 p3
    rw [p1]
    exact this
theorem RbI.write (hR : RbI q k ph left S A L fin s) (h : ArAt w q 0 s) (hq : q.pb.room = 3) (hz : q.pb.sz = 65536) (hA : A ≤ 50000) (hS : S ≤ 900000) (hL : L ≤ 900000) (hcap : capG20 q.g ≤ 100000) (f : Bool) {l : Int} {d : Sec} (hd : SecOk d) (h0 : 0 ≤ l) (h1 : l < capG20 q.g) {dp : Option Addr} {dc : Nat}
    (hx : ∀ w', Keep (ArF q w) w w' → SlL secLay w' dp 1 [d]) (hK : ∀ s' w', RbI q k ph left (S + 17) (A + 518) (L + 2) (upd fin l d) s' → ArAt w' q 0 s' → Keep (ArF q w) w w' → R (.agg (repC 1 0 none 0 0)) w') :
    CallV Tryz.prog 16 #[.pointer (some ⟨q.a, 0, none⟩), .int .i64 (sideN f), .int .i64 0, .agg (cmdC ⟨3, l, 0, dp, 1, dc, 0, 0, false⟩)] w R := by
  refine ar_DoWrite (c := ⟨3, l, 0, dp, 1, dc, 0, 0, false⟩) (xs := [d]) h f rfl (hR.ready f) rfl (alone_none f (hR.alone f)) (by rw [hR.d]; exact gate_rw1 (Or.inr rfl) (by show (1 : Int) ≤ 1; decide) (by show (1 : Int) ≤ 8; decide) h0 (by show l + (1 : Int) ≤ capG20 q.g; omega) (by decide)) rfl hx
    (fun n s' => (n = 0 ∧ s' = s) ∨ (n = 1 ∧ RbI q k ph left (S + 17) (A + 518) (L + 2) (upd fin l d) s')) (fun _ => False) (Or.inl ⟨rfl, rfl⟩) ?_ ?_ (fun _ _ h => h.elim)
  · intro n x s1 w1 R1 hxk hiv h1' hh
    have hn : n = 0 ∧ s1 = s := by
      rcases hiv with h | ⟨rfl, _⟩
      · exact h
      · cases hxk
    obtain ⟨rfl, rfl⟩ := hn
    cases hxk
    have e0 : (Cmd.mk 3 l 0 dp 1 dc 0 0 false).lba + ((0 : Nat) : Int) = l := Int.add_zero _
    rw [e0]
    refine ar_putI h1' f (fun s' => s' = s1 ∨ (RbI q k ph left (S + 15) (A + 444) (L + 1) fin s' ∧ s'.ps.es.length ≤ 2)) (fun _ => False) (Or.inl rfl) ?_ ?_ ?_ (fun e s2 w' _ hb => hb.elim)
    · rintro s2 w2 R2 hiv2 h2 hg hr2 hh2
      rcases hiv2 with rfl | ⟨_, hb⟩
      · refine hR.outC hz (by omega) (by omega) (by omega) hcap h2 f (fun e => by rw [e, hq] at hr2; exact absurd hr2 (by decide)) fun p w3 hp h3 k3 hR3 he3 => ?_
        have hlt := del_lt hp
        have := hR.room
        refine hh2 0 _ w3 h3 k3 (Or.inl ⟨rfl, Or.inr ⟨hR3, by rw [he3]; omega⟩, by rw [he3]; exact hlt⟩)
      · rw [hq] at hr2; omega
    · rintro s2 hiv2 g _
      rcases hiv2 with rfl | ⟨hR2, _⟩
      · exact hR.roomM hz (by omega) g
      · exact hR2.roomM hz (by omega) g
    · rintro s2 w2 hiv2 hor h2 k2
      have hR2 : RbI q k ph left (S + 15) (A + 444) (L + 1) fin s2 := by
        rcases hiv2 with rfl | ⟨hR2, _⟩
        · exact hR.mono (by omega) (by omega) (by omega)
        · exact hR2
      obtain ⟨p1, p2⟩ := hR2.put hz hq (by omega) (by omega) (by omega) hcap f hd h0 h1 hor
      rw [p1]
      exact hh 0 _ w2 h2 k2 (Or.inl ⟨rfl, Or.inr ⟨rfl, p2.mono (by omega) (by omega) (by omega)⟩⟩)
  · rintro s' w' (⟨h, _⟩ | ⟨_, hR'⟩) h' k'
    · cases h
    · exact hK s' w' hR' h' k'
/-- a sync -/
theorem RbI.sync (hR : RbI q k ph left S A L fin s) (h : ArAt w q 0 s) (hz : q.pb.sz = 65536) (hA : A ≤ 50000) (hS : S ≤ 900000) (hL : L ≤ 900000) (hcap : capG20 q.g ≤ 100000) (f : Bool)
    (hK : ∀ s' w', RbI q k ph left (S + 45) (A + 1332) (L + 3) fin s' → s'.ps.es = [] → ArAt w' q 0 s' → Keep (ArF q w) w w' → R (.agg (repC 1 0 none 0 0)) w') :
    CallV Tryz.prog 16 #[.pointer (some ⟨q.a, 0, none⟩), .int .i64 (sideN f), .int .i64 0, .agg (cmdC ⟨4, 0, 0, none, 0, 0, 0, 0, false⟩)] w R := by
  have hroom := hR.room
  refine ar_DoSync (c := ⟨4, 0, 0, none, 0, 0, 0, 0, false⟩) h f rfl (hR.ready f) rfl (alone_none f (hR.alone f)) (by rw [hR.d]; exact gate_sync rfl (by decide))
    (fun s' => RbI q k ph left (S + 45 - 15 * (s'.ps.es.length : Int)) (A + 1332 - 444 * (s'.ps.es.length : Int)) (L + 3 - (s'.ps.es.length : Int)) fin s') (fun _ => False) (hR.mono (by omega) (by omega) (by omega)) ?_ ?_ (fun _ _ h => h.elim)
  · intro s1 w1 R1 hiv hne h1 hh
    have hr1 := hiv.room
    refine hiv.outC hz (by omega) (by omega) (by omega) hcap h1 f hne fun p w2 hp h2 k2 hR2 he2 => ?_
    have hlen := del_len hiv.qv.nd hp
    refine hh 0 _ w2 h2 k2 (Or.inl ⟨rfl, ?_, by rw [he2]; exact del_lt hp⟩)
    rw [he2]
    exact hR2.mono (by omega) (by omega) (by omega)
  · intro s' w' hiv he h' k'
    rw [he] at hiv
    exact hK s' w' (hiv.mono (by simp) (by simp) (by simp)) he h' k'
end wr

/-! ### the law's own state -/
def nowA (n : Nat) (now : Int → Sec) : List Sec := (List.range n).map fun (k : Nat) => now (k : Int)
theorem len_nowA (n : Nat) (now : Int → Sec) : (nowA n now).length = n := by simp [nowA]
theorem nowA_at {n k : Nat} (h : k < n) (now : Int → Sec) : (nowA n now)[k]? = some (now (k : Int)) := by
  simp [nowA, h]
theorem nowA_set {n k : Nat} (now : Int → Sec) (f : Sec) : (nowA n now).set k f = nowA n (upd now (k : Int) f) := by
  apply List.ext_getElem?
  intro i
  by_cases hi : i < n
  · by_cases e : k = i
    · subst e
      rw [List.getElem?_set_self (by rw [len_nowA]; exact hi), nowA_at hi]
      unfold upd
      rw [if_pos rfl]
    · rw [List.getElem?_set_ne e, nowA_at hi, nowA_at hi]
      unfold upd
      rw [if_neg (by omega)]
  · rw [List.getElem?_eq_none (by rw [List.length_set, len_nowA]; omega), List.getElem?_eq_none (by rw [len_nowA]; omega)]
theorem nowA_zero (n : Nat) : List.replicate n (sec []) = nowA n now0 := by
  apply List.ext_getElem?
  intro i
  by_cases hi : i < n
  · rw [nowA_at hi, List.getElem?_replicate, if_pos hi]; rfl
  · rw [List.getElem?_eq_none (by simp; omega), List.getElem?_eq_none (by rw [len_nowA]; omega)]
def RbW (q0 : AB) (g : Geo) (k n N0 B : Nat) (p : Option Addr) (b : Nat) (w0 : World) (ph : Nat) (left S A L : Int) (w' : World) : Prop :=
  ∃ (q : AB) (s : AS) (fin : Int → Sec), (q.a = q0.a ∧ q.g = g ∧ q.pb.room = 3 ∧ q.pb.sz = 65536) ∧ ArFrom q N0 ∧ ArAt w' q 0 s ∧ RbI q k ph left S A L fin s ∧ (ph ≠ 2 → left = g.c * g.s) ∧ OwnL secLay w' B 37 p n n (nowA n fin) ∧ Has w' b (.cells (geoV g) 24 (0, 0)) ∧ Keep (fun _ => False) w0 w'
theorem own_arG {w w' : World} {q : AB} {lk : Int} {s : AS} (h : ArAt w q lk s) (k : Keep (ArG q w) w w') {b : Nat} {p : Option Addr} {l c : Nat} {xs : List Sec} (o : OwnL secLay w b 37 p l c xs) : OwnL secLay w' b 37 p l c xs :=
  o.keep k fun b hb => by
    obtain ⟨_, cur, hh⟩ := own_has o b 0 hb
    exact ArG.not h hh (by decide) (by decide) (by decide) (by decide) (by decide) (by decide) (by decide) (by decide)
section law
variable {q0 : AB} {g : Geo} {k n N0 B : Nat} {p : Option Addr} {b : Nat} {w0 w : World} {ph : Nat} {left S A L : Int} {R : Value → World → Prop}
theorem RbW.mono (h : RbW q0 g k n N0 B p b w0 ph left S A L w) {S' A' L' : Int} (h1 : S ≤ S') (h2 : A ≤ A') (h3 : L ≤ L') : RbW q0 g k n N0 B p b w0 ph left S' A' L' w := by
  obtain ⟨q, s, fin, e, hf, ha, hr, hl, o, hb, kk⟩ := h
  exact ⟨q, s, fin, e, hf, ha, hr.mono h1 h2 h3, hl, o, hb, kk⟩
theorem RbW.fail (h : RbW q0 g k n N0 B p b w0 0 left S A L w) (hk : (k : Int) < g.d) (hN : w0.heap.size ≤ N0) (hK : ∀ w', RbW q0 g k n N0 B p b w0 1 left S A L w' → R (.int .i64 0) w') :
    CallV Tryz.prog 20 #[.pointer (some ⟨q0.a, 0, none⟩), .int .i64 (k : Int)] w R := by
  obtain ⟨q, s, fin, ⟨e1, e2, e3, e4⟩, hf, ha, hr, hl, o, hb, kk⟩ := h
  rw [← e1]
  obtain ⟨now', hg, _⟩ := hr.qv.good
  have hnum : (s.ds.length : Int) = q.g.d := hg.ss.num
  have hd4 := hg.ss.geo.d
  rw [e2] at hnum hd4
  have al : ∀ j : Nat, (s.ds.getD j dsk0).dead = false := fun j => by
    cases hd : (s.ds.getD j dsk0).dead
    · rfl
    · have := (hr.dead (j : Int) (by omega) (by unfold deadS; rw [Int.toNat_natCast]; exact hd)).2
      cases this
  refine ar_Fail0 ha hg.lit.1 (n := k) (by omega) (al k) ⟨if k = 0 then 1 else 0, by split <;> omega, by split <;> omega, al _⟩ fun w' ha' k' => hK w' ?_
  exact ⟨q, failA s k, fin, ⟨e1, e2, e3, e4⟩, hf, ha', hr.fail (by rw [e2]; exact hk), fun _ => hl (by decide), own_arF ha k' o, k'.has hb (ArF.not ha hb (by decide) (by decide) (by decide) (by decide) (by decide) (by decide) (by decide)), kk.trans' k' fun i hi e => by have := ArF.low hf e; omega⟩
theorem RbW.repl (h : RbW q0 g k n N0 B p b w0 ph left S A L w) (hk : (k : Int) < g.d) (hN : w0.heap.size ≤ N0) (hN2 : N0 ≤ w.heap.size) (hK : ∀ w', RbW q0 g k n N0 B p b w0 2 (g.c * g.s) S A L w' → R (.int .i64 0) w') :
    CallV Tryz.prog 67 #[.pointer (some ⟨q0.a, 0, none⟩), .int .i64 (k : Int)] w R := by
  obtain ⟨q, s, fin, ⟨e1, e2, e3, e4⟩, hf, ha, hr, hl, o, hb, kk⟩ := h
  rw [← e1]
  obtain ⟨now', hg, _⟩ := hr.qv.good
  refine ar_Replace ha hg.lit.1 (n := k) (by rw [e2]; exact hk) (by rw [keyS_zero hg]; decide) fun bks w' hfr ha' k' => hK w' ?_
  rw [replK_zero hg] at ha'
  have hr' := hr.repl (by rw [e2]; exact hk)
  rw [e2] at hr'
  refine ⟨{ q with bks := bks }, replA s k, fin, ⟨e1, e2, e3, e4⟩, hfr N0 hf hN2, ha', ⟨⟨hr'.qv.good, hr'.qv.v2, hr'.qv.es, hr'.qv.nd, hr'.qv.last, hr'.qv.fok⟩, hr'.dead, hr'.mrk, hr'.left, hr'.room, hr'.steps, hr'.a, hr'.b, hr'.last, hr'.ua, hr'.lives, hr'.ep, hr'.split, hr'.d, hr'.marks⟩, fun h => absurd rfl h, own_arG ha k' o, k'.has hb (ArG.not ha hb (by decide) (by decide) (by decide) (by decide) (by decide) (by decide) (by decide) (by decide)), kk.trans' k' fun i hi e => by have := ArG.low hf ha e; omega⟩
theorem RbI.first {q : AB} {k ph : Nat} {left S A L : Int} {fin : Int → Sec} {s : AS} (h : RbI q k ph left S A L fin s) : firstA s = some false := by
  unfold firstA
  rw [h.ready false, if_pos rfl]
theorem RbW.rebuild (h : RbW q0 g k n N0 B p b w0 2 left S A L w) (hk : (k : Int) < g.d) (hN : w0.heap.size ≤ N0) (hS : S ≤ 900000) {c : Int} (hc : 0 ≤ c) (hK : ∀ w', RbW q0 g k n N0 B p b w0 2 (max 0 (left - c)) (S + min left c) A L w' → R (.tuple #[.int .i64 (max 0 (left - c)), .int .i64 0]) w') :
    CallV Tryz.prog 68 #[.pointer (some ⟨q0.a, 0, none⟩), .int .i64 (k : Int), .int .i64 c] w R := by
  obtain ⟨q, s, fin, ⟨e1, e2, e3, e4⟩, hf, ha, hr, hl, o, hb, kk⟩ := h
  rw [← e1]
  obtain ⟨now', hg, _⟩ := hr.qv.good
  have hle := hr.left
  have hsz := hg.ss.geo.size
  obtain ⟨m1, m2⟩ := hr.mrk rfl
  obtain ⟨r1, r2, r3⟩ := hr.rebuild (by rw [e2]; exact hk) (by omega) hc
  have hal : deadS s.ss (k : Int) = false := by
    cases hd : deadS s.ss (k : Int)
    · rfl
    · exact absurd (hr.dead k (by omega) hd).2 (by decide)
  have hep := hr.ep0 false
  refine ar_Rebuild ha hg.lit.1 hg.ss.ok (n := k) (by rw [e2]; exact hk) hr.first (hr.alone false) hal hc m2 (by omega) (by rw [hep]; exact r1) (by rw [hep, r2]; omega) fun w' ha' k' => ?_
  rw [hep] at ha' ⊢
  rw [r2]
  have e : q.g.c * q.g.s - (q.g.c * q.g.s - max 0 (left - c)) = max 0 (left - c) := by omega
  rw [e]
  exact hK w' ⟨q, _, fin, ⟨e1, e2, e3, e4⟩, hf, ha', r3, fun h => absurd rfl h, own_arG ha k' o, k'.has hb (ArG.not ha hb (by decide) (by decide) (by decide) (by decide) (by decide) (by decide) (by decide) (by decide)), kk.trans' k' fun i hi e => by have := ArG.low hf ha e; omega⟩
theorem RbW.left0 (h : RbW q0 g k n N0 B p b w0 ph left S A L w) (hp : ph ≠ 2) : left = g.c * g.s := by
  obtain ⟨q, s, fin, e, hf, ha, hr, hl, _⟩ := h
  exact hl hp
theorem RbW.leftLe (h : RbW q0 g k n N0 B p b w0 ph left S A L w) : 0 ≤ left ∧ left ≤ g.c * g.s := by
  obtain ⟨q, s, fin, ⟨_, e2, _, _⟩, hf, ha, hr, hl, _⟩ := h
  have := hr.left
  rw [e2] at this
  exact this
theorem RbW.keep (h : RbW q0 g k n N0 B p b w0 ph left S A L w) : Keep (fun _ => False) w0 w := by
  obtain ⟨q, s, fin, e, hf, ha, hr, hl, o, hb, kk⟩ := h
  exact kk
end law
theorem run_mkS20 (w : World) {n : Nat} (hn : n ≤ 20000) : ∃ w', (Instr.makeSlice 32 (.int .i64 (n : Int)) (.int .i64 (n : Int))).run Tryz.prog w = .ok (.slice (some ⟨w.heap.size, 0, none⟩) n n) w' ∧ OwnL secLay w' w.heap.size 37 (some ⟨w.heap.size, 0, none⟩) n n (List.replicate n (sec [])) ∧ Keep (fun _ => False) w w' ∧ w'.heap.size = w.heap.size + 1 :=
  run_makeL (P := Tryz.prog) (L := secLay) (x0 := sec []) (t := 32) (e := 37) (i := (Tryz.prog.info? 37).get (by kernel_rfl)) (z := ((Tryz.prog.info? 37).get (by kernel_rfl)).zero.get (by kernel_rfl)) w (by kernel_rfl) (by kernel_rfl) (by kernel_rfl) (by kernel_rfl) (by kernel_rfl) n
    (by show n * 16 ≤ _; omega) (by have : ((Tryz.prog.info? 37).get (by kernel_rfl)).bytes = 16 := by kernel_rfl
                                    rw [this]; omega) (by simp only [maxLen]; omega)
def phN (i L : Nat) : Nat := if L / 2 < i then 2 else if L / 3 < i then 1 else 0
theorem evS (v : Sec) : (secLay.row v).toArray = secV v := by simp [secLay]
section calls
variable {w : World} {R : Value → World → Prop}
theorem reb20 {x y z d : Int} {lp pp : Option Addr} {ll lc pl pc : Nat} {xs ys : List Int} (hx : 0 ≤ x ∧ x ≤ 255) (hy : 0 ≤ y ∧ y ≤ 255) (hz : 0 ≤ z ∧ z ≤ 255) (hd : 0 ≤ d ∧ d ≤ 255) (hxs : SlL byLay w lp ll xs) (hxb : By xs) (hll : ll ≤ lc ∧ lc ≤ maxLen) (hys : SlL byLay w pp pl ys) (hyb : By ys) (hpl : pl ≤ maxLen)
    (hK : ∀ w', Keep (fun _ => False) w w' → R (.bool true) w') : CallV Tryz.prog 10 #[.int .u8 x, .int .u8 y, .int .u8 z, .slice lp ll lc, .int .u8 d, .slice pp pl pc] w R := by
  apply C_ravelinlaw20_ArrayRebuilds
  unfold F_ravelinlaw20_ArrayRebuilds
  have hmx : 40 ≤ maxLen ∧ maxLen ≤ 9223372036854775807 := by decide
  refine w_small20 hx hy hz fun w1 k1 => OpA_agg.2 ⟨rfl, ?_⟩
  refine copy_of (by kernel_rfl) rfl (one_geoV _) fun w2 hb2 k2 z2 => ?_
  have hg := smallG20_ok (a := x) (b := y) (c := z)
  generalize smallG20 x y z = g at *
  have hgd : 4 ≤ g.d ∧ g.d ≤ 32 := hg.d
  have hsz := hg.size
  have hcap := hg.cap
  refine LdA_all hb2 rfl ?_
  refine ar_New hg (by decide) (by decide) fun q0 w3 hqg hqr hqs h3 hf k3 => T2_mk.2 (OpN_some.2 (OpI_int.2 ?_))
  refine w_awake20 fun w4 k4 => OpB_bool.2 ⟨rfl, rfl, rfl, rfl, (Cb_false (p := _)).2 ?_⟩
  intro dd
  have k35 := k4.dr dd
  have h5 := h3.keep0 k35
  have hb5 := (k3.trans k35).has hb2 (by simp)
  have k05 := ((k1.trans k2).trans k3).trans k35
  have hN0 : w.heap.size ≤ w2.heap.size := (k1.trans k2).size
  have hN5 : w2.heap.size ≤ (w4.dr dd).heap.size := (k3.trans k35).size
  clear h3 hb2 k1 k2 k3 k4 k35
  generalize w4.dr dd = w5 at *
  generalize w1.heap.size = b at *
  generalize w2.heap.size = N0 at *
  refine ⟨fun w' => Has w' b (.cells (geoV g) 24 (0, 0)), hb5, ?_⟩
  refine LdV_of (v := .int .i64 g.c) (fun w' hw => ⟨_, _, _, hw, rfl⟩) (OpI_int.2 ?_)
  refine LdV_of (v := .int .i64 g.s) (fun w' hw => ⟨_, _, _, hw, rfl⟩) (OpI_int.2 ?_)
  refine ar_Capacity h5 fun w6 k6 => OpI_int.2 ⟨k6.has hb5 (by simp), ?_⟩
  rw [hqg]
  have hcapE : (g.d - 2) * g.c * g.s = capG20 g := rfl
  rw [hcapE] at hcap ⊢
  obtain ⟨n, hn⟩ : ∃ n : Nat, (n : Int) = capG20 g := ⟨(capG20 g).toNat, by omega⟩
  obtain ⟨w7, hr7, o7, k7, z7⟩ := run_mkS20 w6 (n := n) (by omega)
  rw [hn] at hr7
  refine ⟨_, _, hr7, OpS_slice.2 ?_⟩
  have k57 := k6.trans k7
  have hBlow : w.heap.size ≤ w6.heap.size := (k05.trans k6).size
  have h7 := h5.keep0 k57
  have hb7 := k57.has hb5 (by simp)
  have k07 := k05.trans k57
  rw [nowA_zero] at o7
  clear h5 hb5 k05 k6 k7 hr7
  generalize hB : w6.heap.size = B at *
  refine LdV_has (v := .int .i64 g.d) hb7 rfl (OpI_int.2 ⟨by omega, ?_⟩)
  obtain ⟨k, hk⟩ : ∃ k : Nat, (k : Int) = d % g.d := ⟨(d % g.d).toNat, by have := Int.emod_nonneg d (show g.d ≠ 0 by omega); omega⟩
  have hkd : (k : Int) < g.d := by rw [hk]; exact Int.emod_lt_of_pos d (by omega)
  have hkt : Int.tmod (IntKind.wrap .i64 d) g.d = (k : Int) := by rw [wrapI (by omega) (by omega), Int.tmod_eq_emod_of_nonneg hd.1, hk]
  rw [hkt, wrapI (x := g.c * g.s) (by omega) (by omega)]
  have hN7 : N0 ≤ w7.heap.size := Nat.le_trans hN5 k57.size
  have hI0 : RbW q0 g k n N0 B (some ⟨B, 0, none⟩) b w 0 (g.c * g.s) 0 0 0 w7 := ⟨q0, arS0 g, now0, ⟨rfl, hqg, hqr, hqs⟩, hf, h7, RbI.new hg hqg k, fun _ => rfl, o7, hb7, k07⟩
  clear h7 o7 hb7
  refine ⟨fun st w' => w' = w7 ∧ ∃ xs' : List Int, SlL byLay w st.1.1 st.1.2.1 xs' ∧ By xs' ∧ st.1.2.1 ≤ 40, ?_, ?_⟩
  · refine Cb_of (fun hc => Slc_hiN (hi := 40) (by simp at hc; omega) ⟨rfl, (xs.take 40).drop 0, ?_, ?_, by show 40 - 0 ≤ 40; decide⟩) (fun hc => ⟨rfl, xs, hxs, hxb, by simp at hc; show ll ≤ 40; omega⟩)
    · exact hxs.sub (lo := 0) (hi := 40) (m := lc) (by decide) (by simp at hc; omega) (by simp at hc; omega)
    · intro v hv
      exact hxb v (List.mem_of_mem_take (List.mem_of_mem_drop hv))
  rintro _ ⟨⟨lp', L, lc'⟩, u⟩ w8 ⟨rfl, xs', hsl, hby, h40⟩
  simp only at hsl h40 ⊢
  obtain rfl : L = xs'.length := hsl.1
  generalize hL : xs'.length = L at *
  have t2 : IntKind.wrap .i64 (Int.tdiv (L : Int) 2) = ((L / 2 : Nat) : Int) := by rw [Int.tdiv_eq_ediv_of_nonneg (by omega), wrapI (by omega) (by omega)]; omega
  have t3 : IntKind.wrap .i64 (Int.tdiv (L : Int) 3) = ((L / 3 : Nat) : Int) := by rw [Int.tdiv_eq_ediv_of_nonneg (by omega), wrapI (by omega) (by omega)]; omega
  rw [t2, t3]
  clear hxs
  refine LoopC_of (σ := Int × Int × Unit) (fun st w' => ∃ i : Nat, st.2.1 = (i : Int) ∧ i ≤ L ∧ N0 ≤ w'.heap.size ∧ RbW q0 g k n N0 B (some ⟨B, 0, none⟩) b w (phN i L) st.1 (20 * (i : Int)) (518 * (i : Int)) (2 * (i : Int)) w') (fun st _ => ((L : Int) - st.2.1).toNat) ⟨0, rfl, by omega, hN7, hI0⟩ ?_
  clear hI0
  rintro _ ⟨left, ⟨i1, u1⟩⟩ w9 ⟨i, hi, hiL, hN9, hW⟩
  simp only at hi hW ⊢
  subst hi
  refine Cb_of (fun hc => ?_) (fun hc => ?_)
  · have hc : i < L := by simp at hc; omega
    refine ⟨fun st w' => st.1 = false ∧ N0 ≤ w'.heap.size ∧ RbW q0 g k n N0 B (some ⟨B, 0, none⟩) b w (phN (i + 1) L) left (20 * (i : Int)) (518 * (i : Int)) (2 * (i : Int)) w', ⟨by decide, ?_⟩, ?_⟩
    · refine Cb_of (fun h3 => ?_) (fun h3 => ⟨by decide, ?_⟩)
      · have h3 : i = L / 3 := by simp at h3; omega
        have hp : phN i L = 0 := by unfold phN; rw [if_neg (by omega), if_neg (by omega)]
        rw [hp] at hW
        have hle := hW.left0 (by decide)
        refine hW.fail hkd hN0 fun w10 hW10 => OpI_int.2 ((Cb_false (p := _)).2 ⟨by decide, ?_⟩)
        have hN10 : N0 ≤ w10.heap.size := by have h1 := hW.keep.size; have h2 := hW10.keep; obtain ⟨q, s, fin, _, hfr, ha, _⟩ := hW10; have := ha.cells.lt; have := hfr.a; omega
        refine Cb_of (fun h2 => ?_) (fun h2 => ?_)
        · have h2 : i = L / 2 := by simp at h2; omega
          refine hW10.repl hkd hN0 hN10 fun w11 hW11 => OpI_int.2 ⟨rfl, ?_, ?_⟩
          · obtain ⟨q, s, fin, _, hfr, ha, _⟩ := hW11; have := ha.cells.lt; have := hfr.a; omega
          · have hp2 : phN (i + 1) L = 2 := by unfold phN; rw [if_pos (by omega)]
            rw [hp2, hle]
            exact hW11
        · have h2 : ¬ i = L / 2 := by simp at h2; omega
          have hp2 : phN (i + 1) L = 1 := by unfold phN; rw [if_neg (by omega), if_pos (by omega)]
          rw [hp2]
          exact ⟨rfl, hN10, hW10⟩
      · have h3 : ¬ i = L / 3 := by simp at h3; omega
        refine Cb_of (fun h2 => ?_) (fun h2 => ?_)
        · have h2 : i = L / 2 := by simp at h2; omega
          have hp : phN i L ≠ 2 := by unfold phN; rw [if_neg (by omega)]; split <;> decide
          have hle := hW.left0 hp
          refine hW.repl hkd hN0 hN9 fun w11 hW11 => OpI_int.2 ⟨rfl, ?_, ?_⟩
          · obtain ⟨q, s, fin, _, hfr, ha, _⟩ := hW11; have := ha.cells.lt; have := hfr.a; omega
          · have hp2 : phN (i + 1) L = 2 := by unfold phN; rw [if_pos (by omega)]
            rw [hp2, hle]
            exact hW11
        · have h2 : ¬ i = L / 2 := by simp at h2; omega
          have hp2 : phN (i + 1) L = phN i L := by
            unfold phN
            have e1 : (L / 2 < i + 1) = (L / 2 < i) := propext ⟨fun h => by omega, fun h => by omega⟩
            have e2 : (L / 3 < i + 1) = (L / 3 < i) := propext ⟨fun h => by omega, fun h => by omega⟩
            simp only [e1, e2]
          rw [hp2]
          exact ⟨rfl, hN9, hW⟩
    clear hW hN9
    rintro _ ⟨g3, u3⟩ w10 ⟨hg3, hN10, hW⟩
    simp only at hg3 ⊢
    subst hg3
    refine (Cb_false (p := _)).2 ?_
    obtain ⟨q, s, fin, ⟨e1, e2, e3, e4⟩, hfr, ha, hr, hl, o, hb, kk⟩ := hW
    obtain ⟨v, hv⟩ : ∃ v, xs'[i]? = some v := ⟨_, List.getElem?_eq_getElem (by omega)⟩
    have hv8 := hby v (List.mem_of_getElem? hv)
    refine (hsl.keepB kk (by simp)).ld0 (x := v) (v := .int .u8 v) rfl (by omega) (by rw [Int.toNat_natCast]; exact hv) rfl (OpI_int.2 ⟨by omega, ?_⟩)
    obtain ⟨l, hl1⟩ : ∃ l : Nat, (l : Int) = v % capG20 g := ⟨(v % capG20 g).toNat, by have := Int.emod_nonneg v (show capG20 g ≠ 0 by omega); omega⟩
    have hl2 : (l : Int) < capG20 g := by rw [hl1]; exact Int.emod_lt_of_pos v (by omega)
    have hlt : Int.tmod (IntKind.wrap .i64 v) (capG20 g) = (l : Int) := by rw [wrapI (by omega) (by omega), Int.tmod_eq_emod_of_nonneg hv8.1, hl1]
    rw [hlt]
    have hlv : (l : Int) ≤ 255 := by
      by_cases hlt2 : v < capG20 g
      · rw [hl1, Int.emod_eq_of_lt hv8.1 hlt2]; exact hv8.2
      · omega
    generalize hdat : sec [IntKind.wrap .u8 (IntKind.wrap .i64 ((i : Int) + 1)), IntKind.wrap .u8 (l : Int)] = dat
    have hdok : SecOk dat := by
      rw [← hdat]
      exact sec_ok (by intro y hy; simp only [List.mem_cons, List.not_mem_nil, or_false] at hy; rcases hy with rfl | rfl <;> exact wrap8 _)
    refine DoQ_of (v := .agg (secV dat)) (fun _ => by rw [← hdat]; exact bld_sec2 _ _ _) (OpA_agg.2 ⟨rfl, ?_⟩)
    refine o.stA (n := 16) rfl (by omega) (by omega) dat (evS dat).symm fun w11 o11 k11 z11 => ⟨by decide, ?_⟩
    rw [Int.toNat_natCast, nowA_set] at o11
    obtain ⟨_, cur, hh⟩ := own_has o B 0 rfl
    have k11' : Keep (fun k => k = B) w10 w11 := k11.mono fun i e => by cases e; rfl
    have ha11 := ha.keepT hh (by decide) (by decide) (by decide) (by decide) (by decide) (by decide) (by decide) (by decide) (by decide) (by decide) (by decide) k11'
    have hb11 := k11'.has hb (fun e => by
      subst e
      have := hh.inj hb
      simp only [Obj.cells.injEq] at this
      exact absurd this.2.1 (by decide))
    have kk11 : Keep (fun _ => False) w w11 := kk.trans' k11' fun i hi e => by omega
    refine o11.ldA (x := dat) rfl (by omega) (by rw [Int.toNat_natCast, nowA_at (by omega)]; unfold upd; rw [if_pos rfl]) ?_
    rw [evS]
    refine ⟨_, _, bsl_s1 _ w11, OpS_slice.2 ?_⟩
    have k12 : Keep (fun _ => False) w11 (w11.alloc (.cells (secV dat) 37)) := Keep.new _ _ _
    have hb12 : Has (w11.alloc (.cells (secV dat) 37)) w11.heap.size (.cells (secV dat) 37 (0, 0)) := Has.new _ _
    have o12 : OwnL secLay _ w11.heap.size 37 (some ⟨w11.heap.size, 0, none⟩) 1 1 [dat] := OwnL.mk (xs := [dat]) (Nat.le_refl _) hb12 (by simp [maxLen]) (by simp [Lay.rows, secLay])
    have ha12 := ha11.keep0 k12
    have oN12 := o11.keep k12 (by simp)
    have hbb12 := k12.has hb11 (by simp)
    have kk12 := kk11.trans k12
    clear ha ha11 hb hb11 o o11 hh k11 k11' k12 kk kk11
    generalize w11.alloc (.cells (secV dat) 37) = w12 at *
    refine DoQ_of (v := .agg (cmdC ⟨3, (l : Int), 0, some ⟨w11.heap.size, 0, none⟩, 1, 1, 0, 0, false⟩)) (fun _ => run_build _ _ _ _ (by kernel_rfl)) (OpA_agg.2 ⟨rfl, ?_⟩)
    obtain ⟨f, hside⟩ : ∃ f, Int.tmod (i : Int) 2 = sideN f := by
      rw [Int.tmod_eq_emod_of_nonneg (by omega)]
      by_cases hev : i % 2 = 0
      · exact ⟨false, by show ((i : Int)) % 2 = 0; omega⟩
      · exact ⟨true, by show ((i : Int)) % 2 = 1; omega⟩
    rw [hside, ← e1]
    refine hr.write ha12 e3 e4 (by omega) (by omega) (by omega) (by rw [e2]; omega) f hdok (by omega) (by rw [e2]; exact hl2) (fun w' k' => ((SlT.of o12).keepB k' fun i cur hh => ArF.not ha12 hh (by decide) (by decide) (by decide) (by decide) (by decide) (by decide) (by decide)).sl) fun s' w13 hr' ha13 k13 => OpA_agg.2 ⟨rfl, ?_⟩
    refine copy_of (by rw [zc_rep]; rfl) rfl (one_repC _ _ _ _ _) fun w14 hb14 k14 z14 => ?_
    refine LdV_has (v := .int .i64 1) hb14 rfl (OpI_int.2 ((Cb_false (p := _)).2 ⟨by decide, ?_⟩))
    have hW14 : RbW q0 g k n N0 B (some ⟨B, 0, none⟩) b w (phN (i + 1) L) left (20 * (i : Int) + 17) (518 * (i : Int) + 518) (2 * (i : Int) + 2) w14 :=
      ⟨q, s', upd fin (l : Int) dat, ⟨e1, e2, e3, e4⟩, hfr, ha13.keep0 k14, hr', hl, (own_arF ha12 k13 oN12).keep k14 (by simp), k14.has (k13.has hbb12 (ArF.not ha12 hbb12 (by decide) (by decide) (by decide) (by decide) (by decide) (by decide) (by decide))) (by simp), (kk12.trans' k13 fun i hi e => by have := ArF.low hfr e; omega).trans k14⟩
    have hN14 : N0 ≤ w14.heap.size := by have := (ha13.keep0 k14).cells.lt; have := hfr.a; omega
    rw [wrapI (x := (i : Int) + 1) (by omega) (by omega)]
    clear ha12 hbb12 o12 oN12 hb12 kk12 hr' ha13 k13 k14 hb14 hr hl hfr
    rw [e1]
    have fin_ : ∀ (left' : Int) (w' : World), N0 ≤ w'.heap.size → RbW q0 g k n N0 B (some ⟨B, 0, none⟩) b w (phN (i + 1) L) left' (20 * (i : Int) + 20) (518 * (i : Int) + 518) (2 * (i : Int) + 2) w' → ∃ m', m' < ((L : Int) - (i : Int)).toNat ∧ ((∃ i2 : Nat, (i : Int) + 1 = (i2 : Int) ∧ i2 ≤ L ∧ N0 ≤ w'.heap.size ∧ RbW q0 g k n N0 B (some ⟨B, 0, none⟩) b w (phN i2 L) left' (20 * (i2 : Int)) (518 * (i2 : Int)) (2 * (i2 : Int)) w') ∧ ((L : Int) - ((i : Int) + 1)).toNat = m') := fun left' w' hN' hW' =>
      ⟨_, by omega, ⟨i + 1, by omega, by omega, hN', hW'.mono (by omega) (by omega) (by omega)⟩, rfl⟩
    refine Cb_of (fun h2 => ?_) (fun h2 => ?_)
    · have h2 : L / 2 ≤ i := by simp at h2; omega
      refine ⟨fun st w' => N0 ≤ w'.heap.size ∧ RbW q0 g k n N0 B (some ⟨B, 0, none⟩) b w (phN (i + 1) L) st.1 (20 * (i : Int) + 20) (518 * (i : Int) + 518) (2 * (i : Int) + 2) w', ?_, ?_⟩
      · refine Cb_of (fun hp => ?_) (fun hp => ⟨hN14, hW14.mono (by omega) (by omega) (by omega)⟩)
        have hp : i < pl := by simp at hp; omega
        obtain ⟨y1, hy1⟩ : ∃ y1, ys[i]? = some y1 := ⟨_, List.getElem?_eq_getElem (by rw [← hys.1]; exact hp)⟩
        have hy8 := hyb y1 (List.mem_of_getElem? hy1)
        refine (hys.keepB hW14.keep (by simp)).ld0 (x := y1) (v := .int .u8 y1) rfl (by omega) (by rw [Int.toNat_natCast]; exact hy1) rfl (OpI_int.2 ⟨by decide, ?_⟩)
        have hm0 := Int.emod_nonneg y1 (show (3 : Int) ≠ 0 by decide)
        have hm1 := Int.emod_lt_of_pos y1 (show (0 : Int) < 3 by decide)
        rw [Int.tmod_eq_emod_of_nonneg hy8.1, wrapI (x := y1 % 3) (by omega) (by omega)]
        have hp2 : phN (i + 1) L = 2 := by unfold phN; rw [if_pos (by omega)]
        rw [hp2] at hW14 ⊢
        have hle := hW14.leftLe
        refine hW14.rebuild hkd hN0 (by omega) hm0 fun w15 hW15 => T2_mk.2 (OpI_int.2 (OpI_int.2 ((Cb_false (p := _)).2 ?_)))
        rw [wrapI (x := left - y1 % 3) (by omega) (by omega)]
        refine DoQ_of (fun _ => run_max _ _ _ _ _ _) (OpI_int.2 ?_)
        rw [show (max 0 (left - y1 % 3) != max 0 (left - y1 % 3)) = false by simp]
        refine (Cb_false (p := _)).2 ⟨?_, hW15.mono (by omega) (by omega) (by omega)⟩
        obtain ⟨q, s, fin, _, hfr, ha, _⟩ := hW15; have := ha.cells.lt; have := hfr.a; omega
      · rintro _ ⟨left', u4⟩ w15 ⟨hN15, hW15⟩
        exact fin_ left' w15 hN15 hW15
    · refine ⟨fun st w' => st.1 = left ∧ w' = w14, ⟨rfl, rfl⟩, ?_⟩
      rintro _ ⟨left', u4⟩ w15 ⟨hle, rfl⟩
      simp only at hle
      subst hle
      exact fin_ left' w15 hN14 (hW14.mono (by omega) (by omega) (by omega))
  have hiE : i = L := by simp at hc; omega
  subst hiE
  clear hc
  refine ⟨fun st w' => st.1 = false ∧ ∃ left', RbW q0 g k n N0 B (some ⟨B, 0, none⟩) b w 2 left' 800 20720 80 w', ?_, ?_⟩
  · refine Cb_of (fun h0 => ?_) (fun h0 => ?_)
    · have h0 : i = 0 := by simp at h0; omega
      exact hW.repl hkd hN0 hN9 fun w10 hW10 => OpI_int.2 ⟨rfl, _, hW10.mono (by omega) (by omega) (by omega)⟩
    · have h0 : ¬ i = 0 := by simp at h0; omega
      have hp : phN i i = 2 := by unfold phN; rw [if_pos (by omega)]
      rw [hp] at hW
      exact ⟨rfl, left, hW.mono (by omega) (by omega) (by omega)⟩
  clear hW hN9
  rintro _ ⟨g3, u3⟩ w10 ⟨hg3, left', hW⟩
  simp only at hg3 ⊢
  subst hg3
  refine (Cb_false (p := _)).2 ?_
  have hle := hW.leftLe
  refine hW.rebuild hkd hN0 (by omega) (c := g.c * g.s) (by omega) fun w11 hW11 => T2_mk.2 (OpI_int.2 (OpI_int.2 ⟨by trivial, by trivial, ?_⟩))
  have hz0 : max 0 (left' - g.c * g.s) = 0 := by omega
  rw [hz0] at hW11 ⊢
  refine (Cb_false (p := _)).2 ?_
  have hW11 := hW11.mono (S' := 1400) (A' := 20720) (L' := 80) (by omega) (by omega) (by omega)
  obtain ⟨q, s, fin, ⟨e1, e2, e3, e4⟩, hfr, ha, hr, _, o, hb, kk⟩ := hW11
  rw [← e1]
  clear hW
  refine DoQ_of (v := .agg (cmdC ⟨4, 0, 0, none, 0, 0, 0, 0, false⟩)) (fun _ => run_build _ _ _ _ (by kernel_rfl)) (OpA_agg.2 ⟨rfl, ?_⟩)
  refine hr.sync ha e4 (by omega) (by omega) (by omega) (by rw [e2]; omega) false fun s1 w12 hr1 hes1 ha1 k1 => OpA_agg.2 ⟨rfl, ?_⟩
  have hb1 := k1.has hb (ArF.not ha hb (by decide) (by decide) (by decide) (by decide) (by decide) (by decide) (by decide))
  have o1 := own_arF ha k1 o
  have kk1 : Keep (fun _ => False) w w12 := kk.trans' k1 fun i hi e => by have := ArF.low hfr e; omega
  clear ha hb o kk k1 hr
  refine ⟨.int .i64 1, rfl, OpI_int.2 ((Cb_false (p := _)).2 ?_)⟩
  refine LdV_has (v := .int .i64 g.d) hb1 rfl (OpI_int.2 ⟨by omega, ?_⟩)
  obtain ⟨ka, hka⟩ : ∃ ka : Nat, (ka : Int) = ((k : Int) + 1) % g.d := ⟨(((k : Int) + 1) % g.d).toNat, by have := Int.emod_nonneg ((k : Int) + 1) (show g.d ≠ 0 by omega); omega⟩
  obtain ⟨kb, hkb⟩ : ∃ kb : Nat, (kb : Int) = ((k : Int) + 2) % g.d := ⟨(((k : Int) + 2) % g.d).toNat, by have := Int.emod_nonneg ((k : Int) + 2) (show g.d ≠ 0 by omega); omega⟩
  have hkaT : Int.tmod (IntKind.wrap .i64 ((k : Int) + 1)) g.d = (ka : Int) := by rw [wrapI (by omega) (by omega), Int.tmod_eq_emod_of_nonneg (by omega), hka]
  have hkbT : Int.tmod (IntKind.wrap .i64 ((k : Int) + 2)) g.d = (kb : Int) := by rw [wrapI (by omega) (by omega), Int.tmod_eq_emod_of_nonneg (by omega), hkb]
  have hkad : (ka : Int) < g.d := by rw [hka]; exact Int.emod_lt_of_pos _ (by omega)
  have hkbd : (kb : Int) < g.d := by rw [hkb]; exact Int.emod_lt_of_pos _ (by omega)
  have hkab : ka ≠ kb := fun e => by
    have : ((k : Int) + 1) % g.d = ((k : Int) + 2) % g.d := by rw [← hka, ← hkb, e]
    by_cases h1 : (k : Int) + 1 < g.d
    · rw [Int.emod_eq_of_lt (by omega) h1] at this
      by_cases h2 : (k : Int) + 2 < g.d
      · rw [Int.emod_eq_of_lt (by omega) h2] at this; omega
      · rw [show (k : Int) + 2 = g.d by omega, Int.emod_self] at this; omega
    · rw [show (k : Int) + 1 = g.d by omega, Int.emod_self, show (k : Int) + 2 = 1 + g.d * 1 by omega, Int.add_mul_emod_self_left, Int.emod_eq_of_lt (by omega) (by omega)] at this
      omega
  rw [hkaT]
  obtain ⟨now1, hg1, hnow1⟩ := hr1.qv.good
  have hnum : (s1.ds.length : Int) = q.g.d := hg1.ss.num
  rw [e2] at hnum
  have al : ∀ j : Nat, (s1.ds.getD j dsk0).dead = false := fun j => by
    cases hd : (s1.ds.getD j dsk0).dead
    · rfl
    · have := (hr1.dead (j : Int) (by omega) (by unfold deadS; rw [Int.toNat_natCast]; exact hd)).2
      cases this
  have qv0 : Qv q s1 fin 0 ka ka := by
    obtain ⟨m1, _⟩ := hr1.mrk rfl
    refine ⟨hr1.qv.good, V2.all (fun j a hj ha hv => ?_) _ _, hr1.qv.es, hr1.qv.nd, hr1.qv.last, hr1.qv.fok⟩
    have hjk : j = (k : Int) := (hr1.qv.v2 j a hj ha hv).elim id id
    subst hjk
    have := m1 a ha hv
    omega
  have hother : ∃ i : Nat, i < s1.ds.length ∧ i ≠ ka ∧ i ≠ kb := by
    by_cases h0 : ka ≠ 0 ∧ kb ≠ 0
    · exact ⟨0, by omega, by omega, by omega⟩
    · by_cases h1 : ka ≠ 1 ∧ kb ≠ 1
      · exact ⟨1, by omega, by omega, by omega⟩
      · exact ⟨2, by omega, by omega, by omega⟩
  obtain ⟨io, io1, io2, io3⟩ := hother
  refine ar_Fail0 ha1 hg1.lit.1 (n := ka) (by omega) (al ka) ⟨io, io1, io2, al io⟩ fun w13 ha2 k2 => OpI_int.2 ((Cb_false (p := _)).2 ?_)
  have hb2 := k2.has hb1 (ArF.not ha1 hb1 (by decide) (by decide) (by decide) (by decide) (by decide) (by decide) (by decide))
  have o2 := own_arF ha1 k2 o1
  have kk2 : Keep (fun _ => False) w w13 := kk1.trans' k2 fun i hi e => by have := ArF.low hfr e; omega
  refine LdV_has (v := .int .i64 g.d) hb2 rfl (OpI_int.2 ⟨by omega, ?_⟩)
  rw [hkbT]
  have al2 : ∀ j : Nat, j ≠ ka → ((failA s1 ka).ds.getD j dsk0).dead = false := fun j hj => by
    show ((s1.ds.set ka { s1.ds.getD ka dsk0 with dead := true }).getD j dsk0).dead = false
    rw [getD_setS (by omega), if_neg (fun e => hj e.symm)]
    exact al j
  have hlen2 : (failA s1 ka).ds.length = s1.ds.length := by
    show (s1.ds.set ka _).length = _
    rw [List.length_set]
  refine ar_Fail0 ha2 hg1.lit.1 (n := kb) (by rw [hlen2]; omega) (al2 kb (fun e => hkab e.symm)) ⟨io, by rw [hlen2]; exact io1, io3, al2 io io2⟩ fun w14 ha3 k3 => OpI_int.2 ((Cb_false (p := _)).2 ?_)
  have o3 := own_arF ha2 k3 o2
  have kk3 : Keep (fun _ => False) w w14 := kk2.trans' k3 fun i hi e => by have := ArF.low hfr e; omega
  have qv3 : Qv q (failA (failA s1 ka) kb) fin 0 ka kb := (qv0.fail (by rw [e2]; exact hkad)).fail (by rw [e2]; exact hkbd)
  have hrd : readyA (failA (failA s1 ka) kb) true = true := qv3.ready hr1.lives.2 (Int.le_of_eq hr1.ep.2.symm) (Int.le_refl _)
  have hal3 : upA (failA (failA s1 ka) kb) (!true) = false ∨ (livesA (failA (failA s1 ka) kb) (!true) = true ∧ (failA (failA s1 ka) kb).split = false) := hr1.alone true
  have hd3 : (failA (failA s1 ka) kb).d = dk0 := hr1.d
  generalize failA (failA s1 ka) kb = s3 at *
  obtain ⟨now3, hg3, _⟩ := qv3.good
  have hok3 := hg3.ss.ok
  clear ha1 ha2 hb1 hb2 o1 o2 kk1 kk2 k2 k3 al al2 hr1 hes1 qv0
  refine LoopC_of (σ := Int × Unit) (fun st w' => ∃ j : Nat, st.1 = (j : Int) ∧ j ≤ n ∧ ArAt w' q 0 s3 ∧ OwnL secLay w' B 37 (some ⟨B, 0, none⟩) n n (nowA n fin) ∧ Keep (fun _ => False) w w') (fun st _ => ((n : Int) - st.1).toNat) ⟨0, rfl, by omega, ha3, o3, kk3⟩ ?_
  clear ha3 o3 kk3
  rintro _ ⟨j1, u1⟩ w15 ⟨j, hj, hjn, ha, o, kk⟩
  simp only at hj ⊢
  subst hj
  refine Cb_of (fun hc => ?_) (fun hc => Ret_nil.2 (hK w15 kk))
  have hc : j < n := by simp at hc; omega
  refine DoQ_of (v := .agg (cmdC ⟨2, (j : Int), 1, none, 0, 0, 0, 0, false⟩)) (fun _ => run_build _ _ _ _ (by kernel_rfl)) (OpA_agg.2 ⟨rfl, ?_⟩)
  have hre := qv3.read (l := (j : Int)) (by omega) (by rw [e2]; omega)
  refine ar_DoRead (c := ⟨2, (j : Int), 1, none, 0, 0, 0, 0, false⟩) ha true rfl hrd rfl (alone_none true hal3) (by rw [hd3]; exact gate_rw1 (Or.inl rfl) (by show (1 : Int) ≤ 1; decide) (by show (1 : Int) ≤ 8; decide) (by show (0 : Int) ≤ j; omega) (by show (j : Int) + (1 : Int) ≤ capG20 q.g; rw [e2]; omega) (by decide)) hok3 (fun m hm => ?_) fun p' cc w16 ha4 k4 o4 => OpA_agg.2 ⟨rfl, ?_⟩
  · have hm : (m : Int) < 1 := hm
    have : m = 0 := by omega
    subst this
    show (readA q s3 ((j : Int) + ((0 : Nat) : Int))).2 = 0
    rw [show (j : Int) + ((0 : Nat) : Int) = (j : Int) by omega, hre]
  have hrs : readsA q s3 (j : Int) (1 : Int).toNat = [fin (j : Int)] := by
    show (List.range 1).map (fun k : Nat => (readA q s3 ((j : Int) + (k : Int))).1) = _
    show [(readA q s3 ((j : Int) + ((0 : Nat) : Int))).1] = _
    rw [show (j : Int) + ((0 : Nat) : Int) = (j : Int) by omega, hre]
  have o4 : OwnL secLay w16 w15.heap.size 37 p' 1 cc (readsA q s3 (j : Int) (1 : Int).toNat) := o4
  rw [hrs] at o4
  refine copy_of (by rw [zc_rep]; rfl) rfl (one_repC _ _ _ _ _) fun w17 hb17 k17 z17 => ?_
  refine LdV_has (v := .int .i64 1) hb17 rfl (OpI_int.2 ((Cb_false (p := _)).2 ?_))
  refine LdV_has (v := .slice p' 1 cc) hb17 rfl (OpS_slice.2 ((Cb_false (p := _)).2 ?_))
  refine LdV_has (v := .slice p' 1 cc) hb17 rfl (OpS_slice.2 ?_)
  refine (o4.keep k17 (by simp)).ldA (x := fin (j : Int)) rfl (by decide) rfl ?_
  rw [evS]
  have o5 := (own_arF ha k4 o).keep k17 (by simp)
  refine o5.ldA (x := fin (j : Int)) rfl (by omega) (by rw [Int.toNat_natCast]; exact nowA_at hc fin) ?_
  rw [evS]
  refine EqB_sec_ne (qv3.fok _) (qv3.fok _) fun r hr => ?_
  have hrf : r = false := by cases r <;> simp_all
  subst hrf
  intro dd2
  refine (Cb_false (p := _)).2 ?_
  have k18 := k17.dr dd2
  rw [wrapI (by omega) (by omega)]
  refine ⟨_, ?_, ⟨j + 1, by show (j : Int) + 1 = ((j + 1 : Nat) : Int); omega, hc, ha4.keep0 k18, (own_arF ha k4 o).keep k18 (by simp), (kk.trans' k4 fun i hi e => by have := ArF.low hfr e; omega).trans k18⟩, rfl⟩
  show ((n : Int) - ((j : Int) + 1)).toNat < ((n : Int) - (j : Int)).toNat
  omega
theorem reb_walk20 {W : World} {x y z d : Int} {lp pp : Option Addr} {ll lc pl pc : Nat} {xs ys : List Int} (hx : 0 ≤ x ∧ x ≤ 255) (hy : 0 ≤ y ∧ y ≤ 255) (hz : 0 ≤ z ∧ z ≤ 255) (hd : 0 ≤ d ∧ d ≤ 255) (hxs : SlL byLay W lp ll xs) (hxb : By xs) (hll : ll ≤ lc ∧ lc ≤ maxLen) (hys : SlL byLay W pp pl ys) (hyb : By ys) (hpl : pl ≤ maxLen) :
    CallV Tryz.prog 10 #[.int .u8 x, .int .u8 y, .int .u8 z, .slice lp ll lc, .int .u8 d, .slice pp pl pc] W fun v w' => v = .bool true ∧ Below W.heap.size W w' := reb20 hx hy hz hd hxs hxb hll hys hyb hpl fun w' k => ⟨rfl, k.below⟩
end calls
end Go.Proofs

namespace Go.Proofs.YthhimblbnnafkaaGreat.arrayRebuilds
open Go Go.Ev Go.RowKit Go.Proofs Go.ChangeShapes Go.WideShapes Go.ChangeAt
set_option linter.unusedVariables false
set_option maxRecDepth 100000
theorem own : ownKnob Tryz.prog.godebug = none := by kernel_rfl

theorem contract (H : Type) (enc : TypeId × Value → H) (W : World) (base : Nat) (args : Array Value) (ds gs : List (DataW H)) (before : List MemPlace) (hk : Rows.uptoSmall H (ds ++ gs) = true)
    (hval : ∀ (j : Nat) t v, Tryz.f10.params[j]? = some t → args[j]? = some v → Value.okWide Tryz.prog W .any base t v)
    (hW : DataW.Whole enc Tryz.prog Tryz.f10.params.toList Rows.arrayRebuildsSpec.vars false W args.toList ds gs before) :
    Calls Tryz.prog 10 args W fun e W' => ∃ v, e = .returned v ∧ Rows.arrayRebuildsSpec.post enc Tryz.prog Tryz.f10 false true false false W args v W' := by
  have hW' := hW
  obtain ⟨p, q, hA0, hV, rfl, hfz, hnd⟩ := hW
  have hA : DataW.TrodAll enc Tryz.prog W 0 (fun _ => true) true Tryz.f10.params.toList args.toList ds p := hA0
  rw [Tryz.params10] at hA hval
  obtain ⟨v0, vs0, d0, ds0, pp0, q0, hargs, rfl, rfl, h0, r0⟩ := trodAll_cons hA
  obtain ⟨v1, vs1, d1, ds1, pp1, q1, rfl, rfl, rfl, h1, r1⟩ := trodAll_cons r0
  obtain ⟨v2, vs2, d2, ds2, pp2, q2, rfl, rfl, rfl, h2, r2⟩ := trodAll_cons r1
  obtain ⟨v3, vs3, d3, ds3, pp3, q3, rfl, rfl, rfl, h3, r3⟩ := trodAll_cons r2
  obtain ⟨v4, vs4, d4, ds4, pp4, q4, rfl, rfl, rfl, h4, r4⟩ := trodAll_cons r3
  obtain ⟨v5, vs5, d5, ds5, pp5, q5, rfl, rfl, rfl, h5, r5⟩ := trodAll_cons r4
  obtain ⟨rfl, rfl, rfl⟩ := trodAll_nil r5
  obtain rfl : args = #[v0, v1, v2, v3, v4, v5] := by cases args; simp_all
  obtain ⟨a0, rfl, rfl, rfl, w0⟩ := open_int (t := 5) (k := .u8) (by kernel_rfl) (hval 0 5 v0 rfl rfl) h0
  obtain ⟨a1, rfl, rfl, rfl, w1⟩ := open_int (t := 5) (k := .u8) (by kernel_rfl) (hval 1 5 v1 rfl rfl) h1
  obtain ⟨a2, rfl, rfl, rfl, w2⟩ := open_int (t := 5) (k := .u8) (by kernel_rfl) (hval 2 5 v2 rfl rfl) h2
  obtain ⟨p3, l3, c3, g3, rfl, lc3, cm3, s3, f3, b3⟩ := sl_openB (t := 22) (e := 5) (ks := [.int .u8]) (by kernel_rfl) (by kernel_rfl) (by kernel_rfl) (by decide) (hval 3 22 v3 rfl rfl) h3
  have hb3 := small_mem hk (d := d3) (by simp)
  obtain ⟨a4, rfl, rfl, rfl, w4⟩ := open_int (t := 5) (k := .u8) (by kernel_rfl) (hval 4 5 v4 rfl rfl) h4
  obtain ⟨p5, l5, c5, g5, rfl, lc5, cm5, s5, f5, b5⟩ := sl_openB (t := 22) (e := 5) (ks := [.int .u8]) (by kernel_rfl) (by kernel_rfl) (by kernel_rfl) (by decide) (hval 5 22 v5 rfl rfl) h5
  have hb5 := small_mem hk (d := d5) (by simp)
  refine Calls.mono (have r := fun (x : Int) (h : (Lit.wf (.int .u8 x)) = true) => (show 0 ≤ x ∧ x ≤ 255 by simp [Lit.wf, IntKind.min, IntKind.max, IntKind.signed, IntKind.bits] at h; omega); have ⟨ys, hy, hby⟩ := bytes_list s3 f3; have ⟨zs, hz, hbz⟩ := bytes_list s5 f5; reb_walk20 (lc := c3) (pc := c5) (r _ w0) (r _ w1) (r _ w2) (r _ w4) hy hby ⟨lc3, cm3⟩ hz hbz (Nat.le_trans lc5 cm5)) fun e W' ⟨v, he, hv, hg⟩ => ?_
  subst he hv
  exact ⟨_, rfl, post_below hW' (by kernel_rfl) rfl (by kernel_rfl) rfl rfl (by decide +kernel) hg⟩

theorem lifted (os : Os) (started : os.Started) (H : Type) (enc : TypeId × Value → H) (F : Stop.Interp) :
    ReturnsInHanded {} Tryz.checked os 10 .any ((Rows.OpenSpec.upto Rows.arrayRebuildsSpec).pre6 enc Tryz.prog Tryz.f10 Rows.arrayRebuildsUptoRow.domain false) (((Rows.OpenSpec.upto Rows.arrayRebuildsSpec).at F).post enc Tryz.prog Tryz.f10 false true false false) := by
  refine returnsInHanded_of_cond (C := Tryz.checked) (s := Rows.OpenSpec.upto Rows.arrayRebuildsSpec) (k := Rows.uptoSmall) rfl own started (by kernel_rfl) Tryz.func10
    (OpenSpec.witness (enc := enc) (C := Tryz.checked) (s := Rows.OpenSpec.upto Rows.arrayRebuildsSpec) (k := Rows.uptoSmall) rfl false ⟨#[], #[.int .u8 0, .int .u8 0, .int .u8 0, .slice none 0 0, .int .u8 0, .slice none 0 0], []⟩ 8 (by kernel_rfl) (by kernel_rfl) (by kernel_rfl)
      (x := ([.lit (.int .u8 0), .lit (.int .u8 0), .lit (.int .u8 0), .nil, .lit (.int .u8 0), .nil], [], [])) (by kernel_rfl) rfl (by kernel_rfl)) ?_
  intro W base args ds gs before hval hW _ hk _
  exact contract H enc W base args ds gs before hk hval hW

theorem t1 : (Rows.arrayRebuildsUptoRow.inPlace == Tryz.prog.inPlace 10) = true := by kernel_rfl
theorem t2 : (Rows.arrayRebuildsUptoRow.unfollowed == Tryz.prog.unfollowed 10) = true := by kernel_rfl
theorem t4 : (Rows.arrayRebuildsUptoRow.named == Tryz.prog.varsNamed 10) = true := by kernel_rfl
theorem r1 : Tryz.prog.unfollowed 10 = true := by kernel_rfl
theorem t3 : (Rows.arrayRebuildsUptoRow.recurses == Tryz.prog.recurses 10) = true := by
  have : Tryz.prog.recurses 10 = true := by unfold Program.recurses; rw [r1]; rfl
  rw [this]; rfl
theorem closed : joinedFacts Tryz.pinned.checked.prog 10 Tryz.f10 (Rows.OpenSpec.upto Rows.arrayRebuildsSpec).bare Rows.arrayRebuildsUptoRow = true := by
  unfold joinedFacts
  simp only [Bool.and_eq_true]
  refine ⟨⟨⟨⟨⟨⟨⟨⟨⟨⟨⟨⟨⟨⟨⟨⟨⟨⟨⟨⟨⟨⟨⟨⟨⟨⟨⟨⟨⟨⟨⟨?_, ?_⟩, ?_⟩, ?_⟩, ?_⟩, ?_⟩, ?_⟩, ?_⟩, ?_⟩, t1⟩, t2⟩, t3⟩, t4⟩, ?_⟩, ?_⟩, ?_⟩, ?_⟩, ?_⟩, ?_⟩, ?_⟩, ?_⟩, ?_⟩, ?_⟩, ?_⟩, ?_⟩, ?_⟩, ?_⟩, ?_⟩, ?_⟩, ?_⟩, ?_⟩, ?_⟩
  all_goals kernel_rfl
theorem over : Rows.arrayRebuildsUptoRow.holds Tryz.pinned (Rows.OpenSpec.upto Rows.arrayRebuildsSpec) :=
  OpenClaim.holds_of_cond 10 Tryz.f10 rfl rfl rfl rfl rfl rfl rfl ⟨rfl, rfl, rfl, rfl, rfl⟩ rfl rfl rfl rfl rfl (by kernel_rfl) Tryz.func10 closed
    (of_decide_eq_true (by kernel_rfl)) (by unfold Func.isWrapper; first | (rw [if_pos (by decide +kernel)]; kernel_rfl) | (rw [if_neg (by decide +kernel)]; exact ⟨rfl, rfl⟩))
    (fun os started H enc _ F => lifted os started H enc F)

theorem proved : Rows.ArrayRebuildsUptoSaid :=
  over
end Go.Proofs.YthhimblbnnafkaaGreat.arrayRebuilds

