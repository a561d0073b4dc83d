import Derived.Test.YtdeaollkgckppaaPlanM
import Derived.Test.YtdeaollkgckppaaFScrub
import Derived.Test.YtdeaollkgckppaaStI

/-
  A ROW THAT IS LOOKED AT: what scrub.look answers. Plain, and the parts of the walk.
-/
namespace Go.Proofs
open Go Go.Ev
set_option linter.unusedSimpArgs false
set_option linter.unusedVariables false
set_option maxRecDepth 100000

/-- a row with P and Q anew -/
def rightS (row : List Sec) : List Sec := row.take (row.length - 2) ++ [sumP ((row.take (row.length - 2)).map some), sumQ ((row.take (row.length - 2)).map some)]
open Classical in
/-- is a column wrong? -/
noncomputable def wrongB (g : Geo) (s : SS) (st off : Int) (gone : List Int) (row right : List Sec) (k : Int) : Bool :=
  (decide (k ∈ gone) || decide (right.getD k.toNat (sec []) ≠ row.getD k.toNat (sec []))) && !(s.ds.getD (plcP g st off k).dk.toNat dsk0).dead
/-- the wrong columns among the first ones -/
noncomputable def wrongL (g : Geo) (s : SS) (st off : Int) (gone : List Int) (row right : List Sec) (n : Nat) : List Int := ((List.range n).map fun (k : Nat) => (k : Int)).filter (wrongB g s st off gone row right)
theorem wrongL_succ (g : Geo) (s : SS) (st off : Int) (gone : List Int) (row right : List Sec) (n : Nat) : wrongL g s st off gone row right (n + 1) = wrongL g s st off gone row right n ++ (if wrongB g s st off gone row right (n : Int) = true then [(n : Int)] else []) := by
  unfold wrongL
  rw [List.range_succ, List.map_append, List.filter_append]
  congr 1
  rw [List.map_singleton, List.filter_cons, List.filter_nil]
theorem wrongL_len (g : Geo) (s : SS) (st off : Int) (gone : List Int) (row right : List Sec) (n : Nat) : (wrongL g s st off gone row right n).length ≤ n := by
  refine Nat.le_trans (List.length_filter_le _ _) (by simp)
/-- what look answers -/
def rowV (pp : Option Addr) (n cp : Nat) (pc : Option Addr) (m cc : Nat) (pw : Option Addr) (lw cw : Nat) : Array Value := #[.slice pp n cp, .slice pc m cc, .slice pw lw cw]
theorem one_rowV (pp : Option Addr) (n cp : Nat) (pc : Option Addr) (m cc : Nat) (pw : Option Addr) (lw cw : Nat) : ∀ v ∈ (rowV pp n cp pc m cc pw lw cw).toList, oneV v = true := by
  intro v hv
  have hv : v ∈ [Value.slice pp n cp, .slice pc m cc, .slice pw lw cw] := hv
  simp only [List.mem_cons, List.not_mem_nil, or_false] at hv
  rcases hv with rfl | rfl | rfl <;> rfl
theorem rowV_none : (zc Try.prog 154) = rowV none 0 0 none 0 0 none 0 0 := by kernel_rfl
/-- the columns that are lost, as a map's keys -/
def goneE (l : List Int) : List (Int × Value) := l.foldl (fun es k => ins es k (.agg #[])) []
theorem goneE_look (l : List Int) (x : Int) : mlook (goneE l) x = if x ∈ l then some (.agg #[]) else none := by
  have key : ∀ (l : List Int) (es : List (Int × Value)), mlook (l.foldl (fun es k => ins es k (.agg #[])) es) x = if x ∈ l then some (.agg #[]) else mlook es x := by
    intro l
    induction l with
    | nil => intro es; simp
    | cons k l ih =>
      intro es
      rw [List.foldl_cons, ih]
      by_cases h : x ∈ l
      · rw [if_pos h, if_pos (List.mem_cons_of_mem _ h)]
      · rw [if_neg h, look_ins]
        by_cases e : x = k
        · rw [if_pos e, if_pos (by rw [e]; exact List.mem_cons_self ..)]
        · rw [if_neg e, if_neg (fun h' => by rcases List.mem_cons.1 h' with h' | h'; exact e h'; exact h h')]
  unfold goneE
  rw [key, look_nil]
theorem goneE_succ (l : List Int) (k : Int) : goneE (l ++ [k]) = ins (goneE l) k (.agg #[]) := by unfold goneE; rw [List.foldl_append]; rfl

/-! ### memory -/
theorem bsl_s0 (w : World) : (Instr.buildSlice 67 0 #[]).run Try.prog w = .ok (.slice (some ⟨w.heap.size, 0, none⟩) 0 0) (w.alloc (.cells #[] 23)) := by kernel_rfl
theorem bsl_s2 (f h : Sec) (w : World) : (Instr.buildSlice 67 2 #[(0, .agg (secV f)), (1, .agg (secV h))]).run Try.prog w = .ok (.slice (some ⟨w.heap.size, 0, none⟩) 2 2) (w.alloc (.cells (secV f ++ secV h) 23)) :=
  run_buildSlice w 67 23 2 _ (secV f ++ secV h) ((Try.prog.info? 23).get (by kernel_rfl)) (((Try.prog.info? 23).get (by kernel_rfl)).zero.get (by kernel_rfl)) (by kernel_rfl) (by kernel_rfl) (by kernel_rfl) (by decide +kernel) (by decide +kernel) (by kernel_rfl)
theorem ldSecS {S : World → Prop} {w0 : World} {p : Option Addr} {f : Sec} (h0 : S w0) (h : ∀ w', S w' → SlL byLay w' p 16 (secB f)) (hp : ∃ b o, p = some ⟨b, o, none⟩) {K : Array Value → Prop} (hK : K (secV f)) : SlArr p 16 16 fun b o => LdA 16 b o S K := by
  obtain ⟨b, o, rfl⟩ := hp
  refine ⟨b, o, rfl, Nat.le_refl _, secV f, rfl, ?_, hK⟩
  intro w' hw i hi
  obtain ⟨b', o', hp', hc⟩ := (h w' hw).2 i (f ⟨i, hi⟩) (get_secB f hi)
  cases hp'
  have := hc 0 (by show 0 < 1; omega)
  rw [show o + i * byLay.size + 0 = o + i by show o + i * 1 + 0 = o + i; omega] at this
  rw [this]
  show some (Value.int .u8 (f ⟨i, hi⟩)) = (secV f)[i]?
  have hq : (secV f)[i]? = (secV f).toList[i]? := by simp
  rw [hq, show (secV f).toList = (secB f).map fun y => Value.int .u8 y from rfl, List.getElem?_map, get_secB f hi]; rfl
section calls
variable {w0 w : World} {p : Option Addr} {l c : Nat} {xs : List Sec}
theorem mkS0 (k : Keep (fun _ => False) w0 w) {K : Option Addr → Nat → Nat → World → Prop} (hK : ∀ p' w', (∀ b, p' = some ⟨b, 0, none⟩ → w.heap.size ≤ b) → OwnL secLay w' w0.heap.size 23 p' 0 0 [] → Keep (fun _ => False) w0 w' → Keep (fun _ => False) w w' → K p' 0 0 w') :
    DoV Try.prog (Instr.buildSlice 67 0 #[]) w fun v w => OpS v fun p l c => K p l c w := by
  refine ⟨_, _, bsl_s0 w, OpS_slice.2 ?_⟩
  have k1 := Keep.new (fun _ => False) w (.cells #[] 23)
  exact hK _ _ (fun b hb => by cases hb; exact Nat.le_refl _) ((OwnL.new (L := secLay) (xs := []) (by simp [maxLen]) rfl).rebase k.size) (k.trans k1) k1
theorem mkS2 (k : Keep (fun _ => False) w0 w) {f h : Sec} {K : Option Addr → Nat → Nat → World → Prop} (hK : ∀ p' w', (∀ b o, p' = some ⟨b, o, none⟩ → w.heap.size ≤ b ∧ b < w'.heap.size) → SlL secLay w' p' 2 [f, h] → Keep (fun _ => False) w0 w' → Keep (fun _ => False) w w' → K p' 2 2 w') :
    DoV Try.prog (Instr.buildSlice 67 2 #[(0, .agg (secV f)), (1, .agg (secV h))]) w fun v w => OpS v fun p l c => K p l c w := by
  refine ⟨_, _, bsl_s2 f h w, OpS_slice.2 ?_⟩
  have k1 := Keep.new (fun _ => False) w (.cells (secV f ++ secV h) 23)
  have o : OwnL secLay (w.alloc (.cells (secV f ++ secV h) 23)) w.heap.size 23 (some ⟨w.heap.size, 0, none⟩) 2 2 [f, h] := OwnL.new (L := secLay) (xs := [f, h]) (by simp [maxLen]) (by
    rw [show secLay.rows [f, h] = (secV f).toList ++ ((secV h).toList ++ []) from rfl, List.append_nil, Array.toList_append])
  exact hK _ _ (fun b o hb => by cases hb; exact ⟨Nat.le_refl _, by simp⟩) o.sl (k.trans k1) k1
theorem appS (k : Keep (fun _ => False) w0 w) (o : OwnL secLay w w0.heap.size 23 p l c xs) {p2 : Option Addr} {l2 c2 : Nat} {ys : List Sec} (h2 : SlL secLay w p2 l2 ys) (hl : l + l2 ≤ 1000) {K : Option Addr → Nat → Nat → World → Prop}
    (hK : ∀ p' c' w', OwnL secLay w' w0.heap.size 23 p' (l + l2) c' (xs ++ ys) → Keep (fun _ => False) w0 w' → Keep (fun k => p = some ⟨k, 0, none⟩) w w' → K p' (l + l2) c' w') :
    DoV Try.prog (Builtin.append_ #[67, 67] 67 #[.slice p l c, .slice p2 l2 c2]) w fun v w => OpS v fun p l c => K p l c w := by
  obtain ⟨p', c', w', hr, o', k', _⟩ := run_appendF (c2 := c2) secLayT o h2 (ty := 67) (by omega) (by simp only [maxLen]; omega) k.size
  exact ⟨_, _, hr, OpS_slice.2 (hK p' c' w' o' (k.trans' k' fun i hi e => by have := (o.lt e).1; omega) k')⟩
end calls

/-! ### the list of the columns -/
def ListT (p : Option Addr) (l : Nat) (w : World) (K : (Option Addr × Nat × Nat) × Int × Unit → World → Prop) : Prop :=
  LoopC (σ := (Option Addr × Nat × Nat) × Int × Unit) (fun _ s1 w K1 =>
  Cb (decide (s1.2.1 < IntKind.wrap .i64 (((l : Nat) : Int) - 2))) (IdxS p l s1.2.1 16 fun b2 o => Slc 16 16 none none none fun l3 h m => DoV Try.prog (Instr.buildSlice 111
  1 #[(0, .slice (slcP 1 l3 m (some ⟨b2, o, none⟩)) (h - l3) (m - l3))]) w fun v8 w => OpS v8 fun p3 l4 c3 => DoV Try.prog (Builtin.append_ #[111, 111] 111 #[.slice s1.1.1
  s1.1.2.1 s1.1.2.2, .slice p3 l4 c3]) w fun v9 w => OpS v9 fun p4 l5 c4 => K1 ((p4, l5, c4), (IntKind.wrap .i64 (s1.2.1 + 1), ())) w) (K s1 w)) ((none, 0, 0), (0, ())) w
theorem listT {w : World} {p : Option Addr} {base n c : Nat} {row : List Sec} (hn : 2 ≤ n) (hn32 : n ≤ 32) (o1 : OwnL secLay w base 23 p n c row) (hrok : ∀ f ∈ row, SecOk f) {K : (Option Addr × Nat × Nat) × Int × Unit → World → Prop}
    (hK : ∀ p' c' hs i w', Cols w' p' (n - 2) hs ((row.take (n - 2)).map some) → Keep (fun _ => False) w w' → K ((p', n - 2, c'), (i, ())) w') : ListT p n w K := by
  unfold ListT
  have hrl := o1.length
  have e2 : IntKind.wrap .i64 (((n : Nat) : Int) - 2) = ((n - 2 : Nat) : Int) := by rw [wrapI (by omega) (by omega)]; omega
  rw [e2]
  obtain ⟨bc, cur, hp, hbc, hhas, _⟩ := o1.cells (by omega)
  subst hp
  refine LoopC_of (σ := (Option Addr × Nat × Nat) × Int × Unit) (fun st' w' => ∃ k : Nat, st'.2.1 = (k : Int) ∧ k ≤ n - 2 ∧ st'.1.2.1 = k ∧ OwnL hLay w' w.heap.size 72 st'.1.1 k st'.1.2.2 (hdrs bc k) ∧ Keep (fun _ => False) w w') (fun st' _ => ((n - 2 : Nat) - st'.2.1).toNat)
    ⟨0, rfl, by omega, rfl, OwnL.nil, Keep.refl _ _⟩ ?_
  rintro _ ⟨⟨pa, la, ca⟩, i, u⟩ w1 ⟨k, hi, hk, hlk, oa, k1⟩
  simp only at hi hlk oa ⊢
  subst hi hlk
  have z1 := k1.size
  refine Cb_of (fun hc => ?_) (fun hc => ?_)
  · have hc : la < n - 2 := by
      have : (la : Int) < ((n - 2 : Nat) : Int) := by simpa using hc
      omega
    have ek : IntKind.wrap .i64 ((la : Int) + 1) = ((la + 1 : Nat) : Int) := by rw [wrapI (by omega) (by omega)]; omega
    refine ⟨bc, 0, rfl, by omega, by omega, ?_⟩
    refine Slc_all (by omega) ?_
    rw [slc16, Int.toNat_natCast]
    refine ⟨_, _, bsl_h1 _ _ _ w1, OpS_slice.2 ?_⟩
    have k2 := Keep.new (fun _ => False) w1 (.cells #[.slice (some ⟨bc, 0 + la * 16, none⟩) (16 - 0) (16 - 0)] 72)
    have hb2 := Has.new w1 (.cells #[.slice (some ⟨bc, 0 + la * 16, none⟩) (16 - 0) (16 - 0)] 72)
    generalize w1.alloc (.cells #[.slice (some ⟨bc, 0 + la * 16, none⟩) (16 - 0) (16 - 0)] 72) = w2 at *
    have z2 := k2.size
    obtain ⟨p3, c3, w3, hr3, o3, k3, _⟩ := run_appendF1 hLayT (oa.keep k2 (by simp)) (y := (some ⟨bc, 0 + la * 16, none⟩, 16, 16)) hb2 rfl (ty := 111) (by omega) (by simp only [maxLen]; omega) (by omega) (c2 := 1)
    refine ⟨_, _, hr3, OpS_slice.2 ?_⟩
    refine ⟨_, by show (((n - 2 : Nat) : Int) - IntKind.wrap .i64 ((la : Int) + 1)).toNat < (((n - 2 : Nat) : Int) - (la : Int)).toNat; rw [ek]; omega, ⟨la + 1, ek, by omega, rfl, by rw [hdrs_succ]; exact o3, (k1.trans k2).trans' k3 fun i hi e => by have := (oa.lt e).1; omega⟩, rfl⟩
  · have hc : la = n - 2 := by
      have : ¬ (la : Int) < ((n - 2 : Nat) : Int) := by simpa using hc
      omega
    subst hc
    have o11 := o1.keep k1 (by simp)
    have hcols : Cols w1 pa (n - 2) (hdrs bc (n - 2)) ((row.take (n - 2)).map some) := by
      refine ⟨oa.sl, by rw [len_hdrs, List.length_map, List.length_take]; omega, fun i h C h1 h2 => ?_, map_some_ok fun f hf => hrok f (List.mem_of_mem_take hf)⟩
      have hi : i < n - 2 := by have := (List.getElem?_eq_some_iff.1 h1).1; rwa [len_hdrs] at this
      unfold hdrs at h1
      rw [List.getElem?_map, List.getElem?_range hi] at h1
      cases h1
      rw [List.getElem?_map, List.getElem?_take, if_pos hi] at h2
      obtain ⟨f, hf⟩ : ∃ f, row[i]? = some f := ⟨_, List.getElem?_eq_getElem (by omega)⟩
      rw [hf] at h2
      cases h2
      exact sec_col o11.sl hf
    exact hK pa ca _ _ w1 hcols k1
end Go.Proofs

/-
  scrub.look, the walk.
-/
namespace Go.Proofs
open Go Go.Ev
set_option linter.unusedSimpArgs false
set_option linter.unusedVariables false
set_option maxRecDepth 100000

theorem bld_row (pp : Option Addr) (n cp : Nat) (w : World) : (Instr.build 154 #[(0, .slice pp n cp)]).run Try.prog w = .ok (.agg (rowV pp n cp none 0 0 none 0 0)) w := run_build _ _ _ _ (by kernel_rfl)
theorem bld_row0 (w : World) : (Instr.build 154 #[]).run Try.prog w = .ok (.agg (rowV none 0 0 none 0 0 none 0 0)) w := run_build _ _ _ _ (by kernel_rfl)
theorem rowR_len {g : Geo} {s : SS} {st off : Int} (hd : 2 ≤ g.d.toNat) : (rowR (colsS g s st off)).length = g.d.toNat := by rw [len_rowR (by rw [len_colsS]; omega), len_colsS]
theorem len_rightS {row : List Sec} (h : 2 ≤ row.length) : (rightS row).length = row.length := by
  unfold rightS
  rw [List.length_append, List.length_take]
  simp
  omega
theorem rightS_ok {row : List Sec} (h : ∀ f ∈ row, SecOk f) : ∀ f ∈ rightS row, SecOk f := by
  unfold rightS
  have ht := map_some_ok (D := row.take (row.length - 2)) fun f hf => h f (List.mem_of_mem_take hf)
  intro f hf
  rcases List.mem_append.1 hf with hf | hf
  · exact h f (List.mem_of_mem_take hf)
  · simp only [List.mem_cons, List.not_mem_nil, or_false] at hf
    rcases hf with rfl | rfl
    · exact sumI_ok (fun _ => by omega) ht _
    · exact sumI_ok expN_lt ht _
section calls
variable {w : World} {q : SB} {s : SS} {R : Value → World → Prop}
theorem alive_Q (h : SetAt w q s) {b r : Nat} {D : Dsk} (hda : DiskAt w q.m b r D) {K : Value → Prop} (hK : K (.bool (!D.dead))) : CallQ Try.prog 47 #[.pointer (some ⟨b, 0, none⟩)] (At w) K :=
  CallQ_of (V := .bool (!D.dead)) (fun d => d_Alive (hda.keep (Keep.drew (fun _ => False) w d) (by simp) (by simp)) ⟨rfl, rfl⟩) hK
theorem sc_look (h : SetAt w q s) {p : Option Addr} {l c : Nat} (hsl : SlL dLay w p l (q.bks.map Prod.fst)) (hlc : l ≤ c) (hok : ∀ D ∈ s.ds, DskOk D) {st off : Int} (hst : 0 ≤ st ∧ st < q.g.s) (hof : 0 ≤ off ∧ off < q.g.c)
    (hOff : s.pw.on = false → ∀ w', Keep (fun _ => False) w w' → R (.tuple #[.agg (rowV none 0 0 none 0 0 none 0 0), .int .i64 4]) w')
    (hLost : s.pw.on = true → ¬ lostN (colsS q.g s st off) ≤ 2 → ∀ w', Keep (fun _ => False) w w' → R (.tuple #[.agg (rowV none 0 0 none 0 0 none 0 0), .int .i64 8]) w')
    (hK : s.pw.on = true → lostN (colsS q.g s st off) ≤ 2 → ∀ pp cp pc cc pw lw cw w', OwnL plLay w' w.heap.size 53 pp q.g.d.toNat cp (rowP q.g st off q.g.d.toNat) → OwnL secLay w' w.heap.size 23 pc q.g.d.toNat cc (rightS (rowR (colsS q.g s st off))) →
      OwnL nLay w' w.heap.size 3 pw lw cw (wrongL q.g s st off (goneL (colsS q.g s st off)) (rowR (colsS q.g s st off)) (rightS (rowR (colsS q.g s st off))) q.g.d.toNat) → Keep (fun _ => False) w w' → R (.tuple #[.agg (rowV pp q.g.d.toNat cp pc q.g.d.toNat cc pw lw cw), .int .i64 0]) w') :
    CallV Try.prog 93 #[.agg (setV q.g p l c), .int .i64 st, .int .i64 off] w R := by
  apply C_scrub_look
  unfold F_scrub_look
  have hgd := h.geo.d
  have hll : l = s.ds.length := by have := hsl.1; rw [List.length_map, h.len] at this; exact this
  have hnum := h.num
  refine alc_fresh fun w1 hb1 k1 z1 => ?_
  refine alc_fresh fun w2 hb2 k2 z2 => ?_
  rw [rowV_none] at hb2
  have hs2 := k2.has hb1 (by simp)
  have k02 := k1.trans k2
  refine LdA_all hs2 rfl ?_
  have err : ∀ (e : Int) (w3 : World), Keep (fun _ => False) w2 w3 → (∀ w', Keep (fun _ => False) w w' → R (.tuple #[.agg (rowV none 0 0 none 0 0 none 0 0), .int .i64 e]) w') →
      DoQ Try.prog (Instr.build 154 #[]) (At w3) fun v4 => OpA 3 v4 fun cs1 => StA 3 w1.heap.size 0 cs1 w3 fun w => LdA 3 w1.heap.size 0 (At w) fun cs2 => Ret [] (R (.tuple #[.agg cs2, .int .i64 e]) w) := by
    intro e w3 k3 hR
    refine DoQ_of (v := .agg (rowV none 0 0 none 0 0 none 0 0)) (fun _ => bld_row0 _) (OpA_agg.2 ⟨rfl, ?_⟩)
    have hb3 := k3.has hb2 (by simp)
    refine StA_all hb3 rfl rfl (one_rowV _ _ _ _ _ _ _ _ _) ?_
    refine LdA_all (hb3.upd_same _) rfl (Ret_nil.2 (hR _ ?_))
    exact (k02.trans k3).trans' ((Keep.refl (fun k => k = w1.heap.size) _).upd (fun _ => rfl) _) fun i hi e => by omega
  refine st_Row (h.keep0 k02) (hsl.keepB k02 (by simp)) hlc hok hst hof (fun hp w3 k3 => ?_) (fun hp hl w3 k3 => ?_) fun hp hl pc1 cc1 lp ll lc w3 o3 on3 k3 => ?_
  · exact T3_mk.2 (OpS_slice.2 (OpS_slice.2 (OpI_int.2 ((Cb_true (q := _)).2 (err 4 w3 k3 (hOff hp))))))
  · exact T3_mk.2 (OpS_slice.2 (OpS_slice.2 (OpI_int.2 ((Cb_true (q := _)).2 (err 8 w3 k3 (hLost hp hl))))))
  · refine T3_mk.2 (OpS_slice.2 (OpS_slice.2 (OpI_int.2 ((Cb_false (p := _)).2 ?_))))
    have hK := hK hp hl
    have k03 := k02.trans k3
    have hs3 := k3.has hs2 (by simp)
    have hz3 := k3.has hb2 (by simp)
    have hrl := rowR_len (g := q.g) (s := s) (st := st) (off := off) (by omega)
    have hrok := rowR_ok (colsS_ok (g := q.g) (st := st) (off := off) hok)
    have hgl := goneI_lt (colsS q.g s st off) (colsS q.g s st off).length
    have hgl : ∀ x ∈ goneL (colsS q.g s st off), ∃ n : Nat, x = (n : Int) ∧ n < q.g.d.toNat := fun x hx => by
      obtain ⟨n, h1, h2, _⟩ := hgl x hx
      exact ⟨n, h1, by rw [len_colsS] at h2; exact h2⟩
    have hgc : (goneL (colsS q.g s st off)).length ≤ 2 := by rw [goneL_len]; exact hl
    generalize rowR (colsS q.g s st off) = row at *
    generalize goneL (colsS q.g s st off) = gone at *
    generalize hnn : q.g.d.toNat = n at *
    refine LdA_has (cs := geoV q.g) hs3 (by show 0 + 3 ≤ 4; decide) rfl ?_
    refine l_Row h.geo hst hof fun pp cp w4 o4 k4 => ?_
    rw [hnn] at o4 ⊢
    refine T2_mk.2 (OpS_slice.2 (OpI_int.2 ?_))
    refine listT (by omega) (by omega) (o3.keep k4 (by simp)) hrok fun p5 c5 hs5 i5 w5 hcols k5 => ?_
    refine p_Encode hcols (show 1 ≤ n - 2 by omega) (show n - 2 ≤ 30 by omega) (lost_some _) fun bp bq w6 hne hbp hbq op oq k6 => ?_
    refine T3_mk.2 (OpS_slice.2 (OpS_slice.2 (OpI_int.2 ?_)))
    refine DoQ_of (fun _ => bld_row pp n cp _) (OpA_agg.2 ⟨rfl, ?_⟩)
    refine copy_of (by rw [rowV_none]; rfl) rfl (one_rowV _ _ _ _ _ _ _ _ _) fun w7 hb7 k7 z7 => ?_
    refine ⟨_, _, run_makeMap, OpM_map.2 ?_⟩
    have k8 := Keep.new (fun _ => False) w7 (.map #[] 0)
    have hm8 : MapAt .i64 (w7.alloc (.map #[] 0)) w7.heap.size [] := ⟨_, _, Has.new _ _, MapOk.nil _⟩
    have z8 : (w7.alloc (.map #[] 0)).heap.size = w7.heap.size + 1 := by simp
    generalize w7.alloc (.map #[] 0) = w8 at *
    have k38 := (((k4.trans k5).trans k6).trans k7).trans k8
    have on8 := on3.keep k38 (by simp)
    have hll8 := on8.length
    -- the lost columns as a set
    refine LoopC_of (σ := Int × Unit) (fun st' w' => ∃ j : Nat, st'.1 = (j : Int) ∧ j ≤ ll ∧ MapAt .i64 w' w7.heap.size (goneE (gone.take j)) ∧ Keep (fun k => k = w7.heap.size) w8 w') (fun st' _ => (ll - st'.1).toNat) ⟨0, rfl, by omega, hm8, Keep.refl _ _⟩ ?_
    rintro _ ⟨i, u⟩ w9 ⟨j, hi, hjl, hm9, k9⟩
    simp only at hi ⊢
    subst hi
    refine Cb_of (fun hc => ?_) (fun hc => ?_)
    · have hc : j < ll := by
        have : (j : Int) < (ll : Int) := by simpa using hc
        omega
      have ek : IntKind.wrap .i64 ((j : Int) + 1) = ((j + 1 : Nat) : Int) := by rw [wrapI (by omega) (by omega)]; omega
      obtain ⟨k, hk⟩ : ∃ k, gone[j]? = some k := ⟨_, List.getElem?_eq_getElem (by omega)⟩
      have on9 := on8.keep k9 fun b hb e => by have := (on3.lt hb).2; have := ((((k4.trans k5).trans k6).trans k7)).size; omega
      refine on9.sl.ld0 (i := (j : Int)) (n := 1) (x := k) (v := .int .i64 k) rfl (by omega) (by rw [Int.toNat_natCast]; exact hk) rfl (OpI_int.2 ?_)
      refine DoQ_of (v := .agg #[]) (fun _ => run_build _ _ _ _ (by kernel_rfl)) (OpA_agg.2 ⟨rfl, ?_⟩)
      obtain ⟨arr, clk, hr, ho⟩ := run_mapUpdate (P := Try.prog) (t := 192) (kt := 3) (et := 119) (by kernel_rfl) (by kernel_rfl) hm9 k (.agg #[])
      refine ⟨_, hr, ?_⟩
      have hlt := hm9.lt
      refine ⟨_, by show ((ll : Int) - IntKind.wrap .i64 ((j : Int) + 1)).toNat < ((ll : Int) - (j : Int)).toNat; rw [ek]; omega, ⟨j + 1, ek, by omega, ?_, k9.trans (Keep.one _ _ _)⟩, rfl⟩
      rw [List.take_add_one, hk]
      show MapAt .i64 _ _ (goneE (gone.take j ++ [k]))
      rw [goneE_succ]
      exact ⟨_, _, (by obtain ⟨a, c, hb, _⟩ := hm9; exact hb.upd_same _), ho⟩
    · have hc : j = ll := by
        have : ¬ (j : Int) < (ll : Int) := by simpa using hc
        omega
      subst hc
      rw [hll8, List.take_length] at hm9
      have z38 := k38.size
      have z37 := ((((k4.trans k5).trans k6).trans k7)).size
      have k39 : Keep (fun _ => False) w3 w9 := k38.trans' k9 fun i hi e => by omega
      have o39 := o3.keep k39 (by simp)
      have k69 : Keep (fun _ => False) w6 w9 := (k7.trans k8).trans' k9 fun i hi e => by have := k7.size; omega
      have op9 := op.keep k69 (by simp)
      have oq9 := oq.keep k69 (by simp)
      have k09 := k03.trans k39
      have hb9 : Has w9 w6.heap.size (.cells (rowV pp n cp none 0 0 none 0 0) 154 (0, 0)) := k9.has (k8.has hb7 (by simp)) (by omega)
      have hright : rightS row = row.take (n - 2) ++ [sumP ((row.take (n - 2)).map some), sumQ ((row.take (n - 2)).map some)] := by unfold rightS; rw [hrl]
      have e2 : IntKind.wrap .i64 (((n : Nat) : Int) - 2) = ((n - 2 : Nat) : Int) := by rw [wrapI (by omega) (by omega)]; omega
      have hsub : ∀ {w' : World}, Keep (fun _ => False) w9 w' → SlL secLay w' (slcP 16 0 cc1 pc1) (n - 2 - 0) (row.take (n - 2)) := fun k => by
        have := (o39.keep k (by simp)).sl.sub (lo := 0) (hi := n - 2) (m := cc1) (by omega) (by omega) (by have := o3.cap; omega)
        rw [List.drop_zero] at this
        exact this
      refine ⟨fun st' w' => st'.1.2.1 = n ∧ OwnL secLay w' w9.heap.size 23 st'.1.1 n st'.1.2.2 (rightS row) ∧ Keep (fun _ => False) w9 w', ?_, ?_⟩
      · intro d
        have kd := Keep.drew (fun _ => False) w9 d
        have opd := op9.keep kd (by simp)
        have oqd := oq9.keep kd (by simp)
        generalize w9.dr d = w10 at *
        refine ⟨fun w' => SlL byLay w' (some ⟨bp, 0, none⟩) 16 (secB (sumP ((row.take (n - 2)).map some))) ∧ SlL byLay w' (some ⟨bq, 0, none⟩) 16 (secB (sumQ ((row.take (n - 2)).map some))), ⟨opd.sl, oqd.sl⟩, ?_⟩
        rw [e2]
        refine Slc_hiN (by have := o3.cap; omega) ?_
        refine ldSecS (S := fun w' => SlL byLay w' (some ⟨bp, 0, none⟩) 16 (secB (sumP ((row.take (n - 2)).map some))) ∧ SlL byLay w' (some ⟨bq, 0, none⟩) 16 (secB (sumQ ((row.take (n - 2)).map some)))) (w0 := w10) ⟨opd.sl, oqd.sl⟩ (fun w' hw => hw.1) ⟨_, _, rfl⟩ ?_
        refine ldSecS (S := fun w' => SlL byLay w' (some ⟨bp, 0, none⟩) 16 (secB (sumP ((row.take (n - 2)).map some))) ∧ SlL byLay w' (some ⟨bq, 0, none⟩) 16 (secB (sumQ ((row.take (n - 2)).map some)))) (w0 := w10) ⟨opd.sl, oqd.sl⟩ (fun w' hw => hw.2) ⟨_, _, rfl⟩ ?_
        have hS : ∀ {w' : World}, Keep (fun _ => False) w10 w' → SlL byLay w' (some ⟨bp, 0, none⟩) 16 (secB (sumP ((row.take (n - 2)).map some))) ∧ SlL byLay w' (some ⟨bq, 0, none⟩) 16 (secB (sumQ ((row.take (n - 2)).map some))) := fun k => ⟨(opd.keep k (by simp)).sl, (oqd.keep k (by simp)).sl⟩
        rw [hright]
        generalize sumP ((row.take (n - 2)).map some) = P at *
        generalize sumQ ((row.take (n - 2)).map some) = Q at *
        have kdS := kd.size
        have fin : ∀ {p' : Option Addr} {l' c' : Nat} {w' : World}, l' = n → OwnL secLay w' w10.heap.size 23 p' l' c' ([] ++ row.take (n - 2) ++ [P, Q]) → Keep (fun _ => False) w10 w' → (((p', l', c'), ()) : (Option Addr × Nat × Nat) × Unit).1.2.1 = n ∧ OwnL secLay w' w9.heap.size 23 (((p', l', c'), ()) : (Option Addr × Nat × Nat) × Unit).1.1 n (((p', l', c'), ()) : (Option Addr × Nat × Nat) × Unit).1.2.2 (row.take (n - 2) ++ [P, Q]) ∧ Keep (fun _ => False) w9 w' := by
          intro p' l' c' w' hl' o' k'
          subst hl'
          exact ⟨rfl, o'.rebase kdS, kd.trans k'⟩
        refine ⟨?_, ?_⟩
        · refine mkS0 (Keep.refl _ w10) fun pa wa ha oa ka ka' => ⟨hS ka, ?_, ?_⟩
          · refine appS ka oa (hsub (kd.trans ka)) (by omega) fun pb cb wb ob kb kb' => ⟨hS kb, ?_⟩
            refine mkS2 kb fun px wx hx sx kx kx' => ⟨hS kx, ?_⟩
            exact appS kx (ob.keep kx' (by simp)) sx (by omega) fun pe ce we oe ke ke' => ⟨hS ke, fin (by omega) oe ke⟩
          · refine mkS2 ka fun px wx hx sx kx kx' => ⟨hS kx, ?_⟩
            refine appS kx (oa.keep kx' (by simp)) (hsub (kd.trans kx)) (by omega) fun pb cb wb ob kb kb' => ⟨hS kb, ?_⟩
            exact appS kb ob (sx.keep kb' fun b o hb e => by have := (hx b o hb).1; have := (oa.lt e).2; omega) (by omega) fun pe ce we oe ke ke' => ⟨hS ke, fin (by omega) oe ke⟩
        · refine mkS2 (Keep.refl _ w10) fun px wx hx sx kx kx' => ⟨hS kx, ?_⟩
          refine mkS0 kx fun pa wa ha oa ka ka' => ⟨hS ka, ?_⟩
          refine appS ka oa (hsub (kd.trans ka)) (by omega) fun pb cb wb ob kb kb' => ⟨hS kb, ?_⟩
          exact appS kb ob ((sx.keepB ka' (by simp)).keep kb' fun b o hb e => by have := (hx b o hb).2; have := ha b e; omega) (by omega) fun pe ce we oe ke ke' => ⟨hS ke, fin (by omega) oe ke⟩
      · rintro _ ⟨⟨pr, lr, cr⟩, u⟩ w10 ⟨hlr, or, kr⟩
        simp only at hlr or ⊢
        subst hlr
        have k010 := k09.trans kr
        have hb10 := kr.has hb9 (by simp)
        have hm10 := hm9.keep kr (by simp)
        have orr : OwnL secLay w10 w.heap.size 23 pr lr cr (rightS row) := or.rebase k09.size
        have o310 : OwnL secLay w10 w.heap.size 23 pc1 lr cc1 row := (o39.keep kr (by simp)).rebase k02.size
        have o410 : OwnL plLay w10 w.heap.size 53 pp lr cp (rowP q.g st off lr) := ((o4.keep ((k5.trans k6).trans k69) (by simp)).keep kr (by simp)).rebase k03.size
        have hs10 := (k39.trans kr).has hs3 (by simp)
        have hlen := len_rightS (row := row) (by omega)
        have z9 : w.heap.size ≤ w6.heap.size := (((k03.trans k4).trans k5).trans k6).size
        refine LoopC_of (σ := Int × Unit) (fun st' w' => ∃ (i : Nat) (pw : Option Addr) (lw cw : Nat), st'.1 = (i : Int) ∧ i ≤ lr ∧ Has w' w6.heap.size (.cells (rowV pp lr cp none 0 0 pw lw cw) 154 (0, 0)) ∧ OwnL nLay w' w.heap.size 3 pw lw cw (wrongL q.g s st off gone row (rightS row) i) ∧ (∀ b, pw = some ⟨b, 0, none⟩ → w10.heap.size ≤ b) ∧ Keep (fun k => k = w6.heap.size) w10 w') (fun st' _ => (lr - st'.1).toNat)
          ⟨0, none, 0, 0, rfl, by omega, hb10, OwnL.nil, (fun b e => by cases e), Keep.refl _ _⟩ ?_
        rintro _ ⟨i, u⟩ w11 ⟨i', pw, lw, cw, hi, hil, hb11, ow11, hpw, k11⟩
        simp only at hi ⊢
        subst hi
        have h611 : ∀ {w' : World}, Keep (fun k => k = w6.heap.size) w10 w' → Keep (fun _ => False) w w' := fun k => k010.trans' k fun i hi e => by omega
        have k011 := h611 k11
        have nek : ∀ {α : Type} {L : Lay α} {base : Nat} {e : TypeId} {pz : Option Addr} {lz cz : Nat} {zs : List α}, OwnL L w10 base e pz lz cz zs → 154 ≠ e → OwnL L w11 base e pz lz cz zs := fun o he => o.keep k11 fun k hk e => (OwnL.neH o hb10 he) (by rw [hk, e])
        have or11 := nek orr (by decide)
        have o311 := nek o310 (by decide)
        have o411 := nek o410 (by decide)
        have hm11 : MapAt .i64 w11 w7.heap.size (goneE gone) := hm10.keep k11 (hm10.ne hb10)
        have hs11 : Has w11 w.heap.size (.cells (setV q.g p l c) 29 (0, 0)) := k11.has hs10 (by have := hs3.lt; have := (((k4.trans k5).trans k6)).size; omega)
        refine Cb_of (fun hc => ?_) (fun hc => ?_)
        · have hc : i' < lr := by
            have : (i' : Int) < (lr : Int) := by simpa using hc
            omega
          have ek : IntKind.wrap .i64 ((i' : Int) + 1) = ((i' + 1 : Nat) : Int) := by rw [wrapI (by omega) (by omega)]; omega
          obtain ⟨f, hf⟩ : ∃ f, (rightS row)[i']? = some f := ⟨_, List.getElem?_eq_getElem (by omega)⟩
          obtain ⟨r, hr⟩ : ∃ r, row[i']? = some r := ⟨_, List.getElem?_eq_getElem (by omega)⟩
          have hfo := rightS_ok hrok f (List.mem_of_getElem? hf)
          have hro := hrok r (List.mem_of_getElem? hr)
          have e16 : ∀ f : Sec, (secLay.row f).toArray = secV f := fun f => by show ((secV _).toList).toArray = _; simp
          refine or11.ldA (i := (i' : Int)) (n := 16) (x := f) rfl (by omega) (by rw [Int.toNat_natCast]; exact hf) ?_
          rw [e16]
          refine copy_of (by rw [zc_sec]; rfl) rfl (one_secV _) fun w12 hb12 k12 z12 => ?_
          have hm12 := hm11.keep k12 (by simp)
          have hlk := goneE_look gone (i' : Int)
          refine DoQ_of (v := .tuple #[.agg #[], .bool (decide ((i' : Int) ∈ gone))]) (fun d => ?_) (T2_mk.2 (OpA_agg.2 ⟨rfl, OpB_bool.2 ?_⟩))
          · have := run_lookup (P := Try.prog) (t := 192) (kt := 3) (et := 119) (z := .agg #[]) (by kernel_rfl) (by kernel_rfl) (fun w => run_zeroValue (i := (Try.prog.info? 119).get (by kernel_rfl)) (by kernel_rfl) (by kernel_rfl)) (hm12.dr d) (i' : Int) true
            rw [this, hlk]
            by_cases hg : (i' : Int) ∈ gone
            · rw [if_pos hg, decide_eq_true hg]; rfl
            · rw [if_neg hg, decide_eq_false hg]; rfl
          refine copy_of (by kernel_rfl) rfl (by simp) fun w13 hb13 k13 z13 => ?_
          have k1113 := k12.trans k13
          have k013 := k011.trans k1113
          have h13 := h.keep0 k013
          have hs13 := k1113.has hs11 (by simp)
          obtain ⟨pk1, pk2⟩ := plcP_ok h.geo hst hof (i' : Int)
          obtain ⟨bd, rd, D, hbk, hD, hda, hdl⟩ := h13.get (i := (plcP q.g st off (i' : Int)).dk.toNat) (by have := h13.num; omega)
          have hDg : s.ds.getD (plcP q.g st off (i' : Int)).dk.toNat dsk0 = D := by rw [List.getD_eq_getElem?_getD, hD]; rfl
          have hpl : (rowP q.g st off lr)[i']? = some (plcP q.g st off (i' : Int)) := by
            unfold rowP
            rw [List.getElem?_map, List.getElem?_range hc]; rfl
          have hwrong : wrongB q.g s st off gone row (rightS row) (i' : Int) = ((decide ((i' : Int) ∈ gone) || @decide (f ≠ r) (Classical.propDecidable _)) && !D.dead) := by
            unfold wrongB
            rw [hDg, Int.toNat_natCast, List.getD_eq_getElem?_getD, hf, List.getD_eq_getElem?_getD, hr]
            congr 1
            congr 1
            exact decide_eq_decide.2 Iff.rfl
          have alive : ∀ (J : Bool → World → Prop), (∀ d, J (!D.dead) (w13.dr d)) → LdV w.heap.size 3 (At w13) fun v32 => OpS v32 fun p18 l20 c18 => IdxS pp lr (i' : Int) 2 fun b10 o5 => LdV b10 o5 (At w13) fun v33 => OpI .i64 v33 fun n4 => IdxS p18 l20 n4 1 fun b11 o6 => LdV b11 o6 (At w13)
              fun v34 => OpN v34 fun b12 o7 => CallQ Try.prog 47 #[.pointer (some ⟨b12, o7, none⟩)] (At w13) fun v35 => OpB v35 fun g1 => Drw w13 fun w => J g1 w := by
            intro J hJ
            refine LdV_has (v := .slice p l c) hs13 rfl (OpS_slice.2 ?_)
            refine (o411.keep k1113 (by simp)).sl.ld0 (i := (i' : Int)) (n := 2) (x := plcP q.g st off (i' : Int)) (v := .int .i64 (plcP q.g st off (i' : Int)).dk) rfl (by omega) (by rw [Int.toNat_natCast]; exact hpl) rfl (OpI_int.2 ?_)
            refine (hsl.keepB k013 (by simp)).ld0 (i := (plcP q.g st off (i' : Int)).dk) (n := 1) (x := bd) (v := .pointer (some ⟨bd, 0, none⟩)) rfl pk1.1 (by rw [List.getElem?_map, hbk]; rfl) rfl (OpN_some.2 ?_)
            exact alive_Q h13 hda (OpB_bool.2 hJ)
          refine ⟨fun st' w' => st'.1 = wrongB q.g s st off gone row (rightS row) (i' : Int) ∧ Keep (fun _ => False) w13 w', ?_, ?_⟩
          · refine Cb_of (fun hg => ?_) (fun hg => ?_)
            · refine alive (fun g w => (((g, ()) : Bool × Unit).1 = wrongB q.g s st off gone row (rightS row) (i' : Int) ∧ Keep (fun _ => False) w13 w)) fun d => ⟨?_, Keep.drew _ _ _⟩
              rw [hwrong, hg]; rfl
            · refine LdA_all (k13.has hb12 (by simp)) rfl ?_
              refine (o311.keep k1113 (by simp)).ldA (i := (i' : Int)) (n := 16) (x := r) rfl (by omega) (by rw [Int.toNat_natCast]; exact hr) ?_
              rw [e16]
              refine EqB_sec_ne hfo hro fun g2 hg2 => Cb_of (fun e => ?_) (fun e => ?_)
              · refine alive (fun g w => (((g, ()) : Bool × Unit).1 = wrongB q.g s st off gone row (rightS row) (i' : Int) ∧ Keep (fun _ => False) w13 w)) fun d => ⟨?_, Keep.drew _ _ _⟩
                rw [hwrong, hg, @decide_eq_true _ (Classical.propDecidable _) (hg2.1 e)]; rfl
              · refine fun d => ⟨?_, Keep.drew _ _ _⟩
                rw [hwrong, hg, @decide_eq_false _ (Classical.propDecidable _) (fun h => by rw [hg2.2 h] at e; cases e)]; rfl
          · rintro _ ⟨b5, u⟩ w14 ⟨hb5, k14⟩
            simp only at hb5 ⊢
            have k1114 := k1113.trans k14
            have hb14 := k1114.has hb11 (by simp)
            have ow14 := ow11.keep k1114 (by simp)
            have hlw := ow14.length
            have hlw2 := wrongL_len q.g s st off gone row (rightS row) i'
            rw [hb5]
            have hnext := wrongL_succ q.g s st off gone row (rightS row) i'
            refine Cb_of (fun hg => ?_) (fun hg => ?_)
            · rw [if_pos hg] at hnext
              refine LdV_has (v := .slice pw lw cw) hb14 rfl (OpS_slice.2 ?_)
              refine ⟨_, _, bsl_n1 _ w14, OpS_slice.2 ?_⟩
              have k15 := Keep.new (fun _ => False) w14 (.cells #[.int .i64 (i' : Int)] 3)
              have hb15 := Has.new w14 (.cells #[.int .i64 (i' : Int)] 3)
              generalize w14.alloc (.cells #[.int .i64 (i' : Int)] 3) = w15 at *
              have ow15 := ow14.keep k15 (by simp)
              have k015 := (k011.trans k1114).trans k15
              obtain ⟨p16, c16, w16, hr16, o16, k16, hwh⟩ := run_appendF1 nLayT ow15 (y := (i' : Int)) hb15 rfl (ty := 68) (by omega) (by simp only [maxLen]; omega) k015.size (c2 := 1)
              refine ⟨_, _, hr16, OpS_slice.2 ?_⟩
              have hb16 := k16.has (k15.has hb14 (by simp)) (OwnL.neH ow15 (k15.has hb14 (by simp)) (by decide))
              refine StV_of hb16 (by show 2 < 3; decide) rfl ?_
              have ku := Keep.one w16 w6.heap.size (.cells (rowV pp lr cp none 0 0 p16 (lw + 1) c16) 154 (0, 0))
              have z1015 := (k11.trans ((k1114.trans k15).mono fun _ h => h.elim)).size
              refine ⟨_, by show ((lr : Int) - IntKind.wrap .i64 ((i' : Int) + 1)).toNat < ((lr : Int) - (i' : Int)).toNat; rw [ek]; omega, ⟨i' + 1, p16, lw + 1, c16, ek, by omega, hb16.upd_same _, ?_, ?_, ?_⟩, rfl⟩
              · rw [hnext]
                exact o16.keep ku fun k hk e => (OwnL.neH o16 hb16 (by decide)) (by rw [hk, e])
              · intro b hb
                rcases hwh with e | e
                · exact hpw b (by rw [← e]; exact hb)
                · rw [e] at hb; cases hb; exact z1015
              · exact ((k11.trans ((k1114.trans k15).mono fun _ h => h.elim)).trans' k16 fun i hi e => by have := hpw i e; omega).trans ku
            · rw [if_neg (by rw [hg]; decide), List.append_nil] at hnext
              refine ⟨_, by show ((lr : Int) - IntKind.wrap .i64 ((i' : Int) + 1)).toNat < ((lr : Int) - (i' : Int)).toNat; rw [ek]; omega, ⟨i' + 1, pw, lw, cw, ek, by omega, hb14, ?_, hpw, k11.trans (k1114.mono fun _ h => h.elim)⟩, rfl⟩
              rw [hnext]
              exact ow14
        · have hc : i' = lr := by
            have : ¬ (i' : Int) < (lr : Int) := by simpa using hc
            omega
          subst hc
          have hlw := ow11.length
          refine StV_of hb11 (by show 1 < 3; decide) rfl ?_
          have hb12 := hb11.upd_same (.cells (rowV pp i' cp pr i' cr pw lw cw) 154 (0, 0))
          have ku := Keep.one w11 w6.heap.size (.cells (rowV pp i' cp pr i' cr pw lw cw) 154 (0, 0))
          refine LdA_all hb12 rfl ?_
          have hz12 : Has (w11.upd w6.heap.size (.cells (rowV pp i' cp pr i' cr pw lw cw) 154 (0, 0))) w1.heap.size (.cells (rowV none 0 0 none 0 0 none 0 0) 154 (0, 0)) :=
            ku.has (k11.has ((k39.trans kr).has hz3 (by simp)) (by have := k03.size; have := k3.size; have := (((k4.trans k5).trans k6)).size; omega)) (by have := k3.size; have := (((k4.trans k5).trans k6)).size; omega)
          refine StA_all hz12 rfl rfl (one_rowV _ _ _ _ _ _ _ _ _) ?_
          have ku2 := Keep.one (w11.upd w6.heap.size (.cells (rowV pp i' cp pr i' cr pw lw cw) 154 (0, 0))) w1.heap.size (.cells (rowV pp i' cp pr i' cr pw lw cw) 154 (0, 0))
          refine LdA_all (hz12.upd_same _) rfl (Ret_nil.2 ?_)
          have fin : ∀ {α : Type} {L : Lay α} {base : Nat} {e : TypeId} {pz : Option Addr} {lz cz : Nat} {zs : List α}, OwnL L w11 base e pz lz cz zs → 154 ≠ e → OwnL L ((w11.upd w6.heap.size (.cells (rowV pp i' cp pr i' cr pw lw cw) 154 (0, 0))).upd w1.heap.size (.cells (rowV pp i' cp pr i' cr pw lw cw) 154 (0, 0))) base e pz lz cz zs := fun o he => by
            have o2 := o.keep ku fun k hk e => (OwnL.neH o hb11 he) (by rw [hk, e])
            exact o2.keep ku2 fun k hk e => (OwnL.neH o2 hz12 he) (by rw [hk, e])
          refine hK pp cp pr cr pw lw cw _ (fin o411 (by decide)) (fin or11 (by decide)) (fin ow11 (by decide)) ?_
          exact (k011.trans' ku fun i hi e => by omega).trans' ku2 fun i hi e => by omega
end calls
end Go.Proofs

/-
  A SCRUB: what it answers, plain; and the walks.
-/
namespace Go.Proofs
open Go Go.Ev
set_option linter.unusedSimpArgs false
set_option linter.unusedVariables false
set_option maxRecDepth 100000

structure Rep where
  rows : Int
  bad : Int
  fixed : Int
  lost : Int
def rep0 : Rep := ⟨0, 0, 0, 0⟩
def repV (x : Rep) : Array Value := #[.int .i64 x.rows, .int .i64 x.bad, .int .i64 x.fixed, .int .i64 x.lost]
def RepLe (x : Rep) (n : Int) : Prop := (0 ≤ x.rows ∧ x.rows ≤ n) ∧ (0 ≤ x.bad ∧ x.bad ≤ n) ∧ (0 ≤ x.fixed ∧ x.fixed ≤ n) ∧ (0 ≤ x.lost ∧ x.lost ≤ n)
theorem one_repV (x : Rep) : ∀ v ∈ (repV x).toList, oneV v = true := by
  intro v hv
  have hv : v ∈ [Value.int .i64 x.rows, .int .i64 x.bad, .int .i64 x.fixed, .int .i64 x.lost] := hv
  simp only [List.mem_cons, List.not_mem_nil, or_false] at hv
  rcases hv with rfl | rfl | rfl | rfl <;> rfl
theorem repV_zero : (zc Try.prog 97) = repV rep0 := by kernel_rfl
theorem rep_set0 (a b c d v : Int) : (repV ⟨a, b, c, d⟩).setIfInBounds 0 (.int .i64 v) = repV ⟨v, b, c, d⟩ := rfl
theorem rep_set1 (a b c d v : Int) : (repV ⟨a, b, c, d⟩).setIfInBounds 1 (.int .i64 v) = repV ⟨a, v, c, d⟩ := rfl
theorem rep_set2 (a b c d v : Int) : (repV ⟨a, b, c, d⟩).setIfInBounds 2 (.int .i64 v) = repV ⟨a, b, v, d⟩ := rfl
theorem rep_set3 (a b c d v : Int) : (repV ⟨a, b, c, d⟩).setIfInBounds 3 (.int .i64 v) = repV ⟨a, b, c, v⟩ := rfl
/-- the wrong columns of a row are written -/
def mendL (g : Geo) (ep st off : Int) (right : List Sec) : List Int → Int → SS → Int × Int × SS
  | [], x, s => (0, x, s)
  | k :: ks, x, s => if (applyS g s [putK g st off right k] ep).1 ≠ 0 then ((applyS g s [putK g st off right k] ep).1, x, (applyS g s [putK g st off right k] ep).2) else mendL g ep st off right ks (x + 1) (applyS g s [putK g st off right k] ep).2
theorem mendL_cons (g : Geo) (ep st off : Int) (right : List Sec) (k : Int) (ks : List Int) (x : Int) (s : SS) : mendL g ep st off right (k :: ks) x s = if (applyS g s [putK g st off right k] ep).1 ≠ 0 then ((applyS g s [putK g st off right k] ep).1, x, (applyS g s [putK g st off right k] ep).2) else mendL g ep st off right ks (x + 1) (applyS g s [putK g st off right k] ep).2 := rfl
noncomputable def wrongS (g : Geo) (s : SS) (st off : Int) : List Int := wrongL g s st off (goneL (colsS g s st off)) (rowR (colsS g s st off)) (rightS (rowR (colsS g s st off))) g.d.toNat
/-- the rows of a stripe, from one on -/
noncomputable def scrubL (g : Geo) (ep st : Int) : Nat → Int → Rep → SS → Int × Rep × SS
  | 0, _, x, s => (0, x, s)
  | n + 1, off, x, s =>
    if s.pw.on = false then (4, x, s)
    else if lostN (colsS g s st off) ≤ 2 then
      let m := mendL g ep st off (rightS (rowR (colsS g s st off))) (wrongS g s st off) x.fixed s
      let y : Rep := ⟨x.rows + 1, x.bad + (wrongS g s st off).length, m.2.1, x.lost⟩
      if m.1 ≠ 0 then (m.1, y, m.2.2) else scrubL g ep st n (off + 1) y m.2.2
    else scrubL g ep st n (off + 1) ⟨x.rows + 1, x.bad, x.fixed, x.lost + 1⟩ s
noncomputable def scrubS (g : Geo) (s : SS) (st ep : Int) : Int × Rep × SS := scrubL g ep st g.c.toNat 0 rep0 s
theorem mendL_len {g : Geo} {ep st off : Int} {right : List Sec} : ∀ {ks : List Int} {x : Int} {s : SS}, x ≤ (mendL g ep st off right ks x s).2.1 ∧ (mendL g ep st off right ks x s).2.1 ≤ x + ks.length
  | [], x, s => by show x ≤ x ∧ x ≤ x + ((0 : Nat) : Int); omega
  | k :: ks, x, s => by
    unfold mendL
    split
    · show x ≤ x ∧ x ≤ x + ((ks.length + 1 : Nat) : Int); omega
    · have := mendL_len (g := g) (ep := ep) (st := st) (off := off) (right := right) (ks := ks) (x := x + 1) (s := (applyS g s [putK g st off right k] ep).2)
      rw [List.length_cons]
      omega
theorem mem_wrongL {g : Geo} {s : SS} {st off : Int} {gone : List Int} {row right : List Sec} {n : Nat} {k : Int} (h : k ∈ wrongL g s st off gone row right n) : (0 ≤ k ∧ k < (n : Int)) ∧ wrongB g s st off gone row right k = true := by
  unfold wrongL at h
  obtain ⟨h1, h2⟩ := List.mem_filter.1 h
  obtain ⟨j, hj, rfl⟩ := List.mem_map.1 h1
  have := List.mem_range.1 hj
  exact ⟨by omega, h2⟩
section calls
variable {w : World} {q : SB} {s : SS} {R : Value → World → Prop}
/-- what a scrub may change -/
def ScFoot (q : SB) (bo : Nat) (k : Nat) : Prop := k = bo ∨ SFoot q k
theorem Scrub1_lost {bo bs be : Nat} {x : Rep} {rv : Array Value} (hb : Has w bo (.cells (repV x) 97 (0, 0))) {N : Int} (hx : RepLe x N) (hN : N ≤ 1000000)
    (hK : ∀ w', Has w' bo (.cells (repV ⟨x.rows + 1, x.bad, x.fixed, x.lost + 1⟩) 97 (0, 0)) → Keep (fun k => k = bo) w w' → R (.int .i64 0) w') :
    CallV Try.prog 71 #[.agg rv, .int .i64 8, .pointer (some ⟨bo, 0, none⟩), .pointer (some ⟨bs, 0, none⟩), .pointer (some ⟨be, 0, none⟩)] w R := by
  apply C_Scrub1
  unfold F_Scrub1
  obtain ⟨xr, xb, xf, xl⟩ := x
  obtain ⟨hx1, hx2, hx3, hx4⟩ := hx
  simp only at hx1 hx2 hx3 hx4 hK
  refine alc_fresh fun w1 hb1 k1 z1 => ?_
  refine (Cb_false (p := _)).2 ((Cb_true (q := _)).2 ?_)
  have hb2 := k1.has hb (by simp)
  refine LdV_has (v := .int .i64 xr) hb2 rfl (OpI_int.2 ?_)
  rw [wrapI (by omega) (by omega)]
  refine StV_of hb2 (by show 0 < 4; decide) rfl ?_
  rw [rep_set0]
  have hb3 := hb2.upd_same (.cells (repV ⟨xr + 1, xb, xf, xl⟩) 97 (0, 0))
  have k3 : Keep (fun k => k = bo) w _ := (k1.mono fun _ h => h.elim).trans (Keep.one w1 bo (.cells (repV ⟨xr + 1, xb, xf, xl⟩) 97 (0, 0)))
  refine LdV_has (v := .int .i64 xl) hb3 rfl (OpI_int.2 ?_)
  rw [wrapI (by omega) (by omega)]
  refine StV_of hb3 (by show 3 < 4; decide) rfl ?_
  rw [rep_set3]
  refine Ret_nil.2 (hK _ (hb3.upd_same _) (k3.trans (Keep.one _ _ _)))
theorem Scrub1_err {bo bs be : Nat} {e : Int} {rv : Array Value} (h0 : e ≠ 0) (h8 : e ≠ 8) (hK : ∀ w', Keep (fun _ => False) w w' → R (.int .i64 e) w') :
    CallV Try.prog 71 #[.agg rv, .int .i64 e, .pointer (some ⟨bo, 0, none⟩), .pointer (some ⟨bs, 0, none⟩), .pointer (some ⟨be, 0, none⟩)] w R := by
  apply C_Scrub1
  unfold F_Scrub1
  refine alc_fresh fun w1 hb1 k1 z1 => ?_
  rw [show (e == 0) = false by simpa using h0, show (e == 8) = false by simpa using h8]
  exact (Cb_false (p := _)).2 ((Cb_false (p := _)).2 (Ret_nil.2 (hK w1 k1)))
theorem Scrub1_ok (h : SetAt w q s) {p : Option Addr} {l c : Nat} (hsl : SlL dLay w p l (q.bks.map Prod.fst)) (hlc : l ≤ c) (hpf : ∀ b o, p = some ⟨b, o, none⟩ → ¬ SFoot q b) {bo bs be : Nat} (hpo : ∀ b o, p = some ⟨b, o, none⟩ → b ≠ bo) {x : Rep} {st off ep : Int} (hst : 0 ≤ st ∧ st < q.g.s) (hof : 0 ≤ off ∧ off < q.g.c)
    (hb : Has w bo (.cells (repV x) 97 (0, 0))) (hs : Has w bs (.cells (setV q.g p l c) 29 (0, 0))) (he : Has w be (.cells #[.int .u32 ep] 48 (0, 0))) {N : Int} (hx : RepLe x N) (hN : N ≤ 1000000)
    {base : Nat} {pp pc pw : Option Addr} {cp cc lw cw : Nat} {right : List Sec} {ws : List Int} (o1 : OwnL plLay w base 53 pp q.g.d.toNat cp (rowP q.g st off q.g.d.toNat)) (o2 : OwnL secLay w base 23 pc q.g.d.toNat cc right) (o3 : OwnL nLay w base 3 pw lw cw ws) (hws : ∀ k ∈ ws, 0 ≤ k ∧ k < q.g.d) (hwl : lw ≤ 32)
    (hK : ∀ w', SetAt w' q (mendL q.g ep st off right ws x.fixed s).2.2 → Has w' bo (.cells (repV ⟨x.rows + 1, x.bad + ws.length, (mendL q.g ep st off right ws x.fixed s).2.1, x.lost⟩) 97 (0, 0)) → Keep (ScFoot q bo) w w' → R (.int .i64 (mendL q.g ep st off right ws x.fixed s).1) w') :
    CallV Try.prog 71 #[.agg (rowV pp q.g.d.toNat cp pc q.g.d.toNat cc pw lw cw), .int .i64 0, .pointer (some ⟨bo, 0, none⟩), .pointer (some ⟨bs, 0, none⟩), .pointer (some ⟨be, 0, none⟩)] w R := by
  apply C_Scrub1
  unfold F_Scrub1
  obtain ⟨xr, xb, xf, xl⟩ := x
  obtain ⟨hx1, hx2, hx3, hx4⟩ := hx
  simp only at hx1 hx2 hx3 hx4 hK
  have hgd := h.geo.d
  have hlw := o3.length
  have hrl := o2.length
  refine alc_fresh fun w1 hb1 k1 z1 => ?_
  refine (Cb_true (q := _)).2 ?_
  have hb2 := k1.has hb (by simp)
  refine LdV_has (v := .int .i64 xr) hb2 rfl (OpI_int.2 ?_)
  rw [wrapI (by omega) (by omega)]
  refine StV_of hb2 (by show 0 < 4; decide) rfl ?_
  rw [rep_set0]
  have hb3 := hb2.upd_same (.cells (repV ⟨xr + 1, xb, xf, xl⟩) 97 (0, 0))
  have kk3 := Keep.one w1 bo (.cells (repV ⟨xr + 1, xb, xf, xl⟩) 97 (0, 0))
  have hbne : w.heap.size ≠ bo := by have := hb.lt; omega
  have hr3 := kk3.has hb1 hbne
  generalize w1.upd bo (.cells (repV ⟨xr + 1, xb, xf, xl⟩) 97 (0, 0)) = w2 at *
  refine LdV_has (v := .int .i64 xb) hb3 rfl (OpI_int.2 ?_)
  refine LdV_has (v := .slice pw lw cw) hr3 rfl (OpS_slice.2 ?_)
  rw [wrapI (by omega) (by omega)]
  refine StV_of hb3 (by show 1 < 4; decide) rfl ?_
  rw [rep_set1]
  have hb4 := hb3.upd_same (.cells (repV ⟨xr + 1, xb + (lw : Int), xf, xl⟩) 97 (0, 0))
  have kk4 := Keep.one w2 bo (.cells (repV ⟨xr + 1, xb + (lw : Int), xf, xl⟩) 97 (0, 0))
  have hr4 := kk4.has hr3 hbne
  have hb4' : Has (w2.upd bo (.cells (repV ⟨xr + 1, xb + (lw : Int), xf, xl⟩) 97 (0, 0))) bo (.cells (repV ⟨xr + 1, xb + (lw : Int), xf, xl⟩) 97 (0, 0)) := hb4
  have kw : Keep (fun k => k = bo) w (w2.upd bo (.cells (repV ⟨xr + 1, xb + (lw : Int), xf, xl⟩) 97 (0, 0))) := ((k1.mono fun _ h => h.elim).trans kk3).trans kk4
  generalize w2.upd bo (.cells (repV ⟨xr + 1, xb + (lw : Int), xf, xl⟩) 97 (0, 0)) = w4 at *
  refine LdV_has (v := .slice pw lw cw) hr4 rfl (OpS_slice.2 ?_)
  have hSo : ∀ i, SFoot q i → ¬ i = bo := fun i hi e => by rw [e] at hi; exact h.typ hb (by decide) (by decide) (by decide) hi
  have h4 := h.keep kw hSo
  have own4 : ∀ {α : Type} {L : Lay α} {base : Nat} {e : TypeId} {pz : Option Addr} {lz cz : Nat} {zs : List α}, OwnL L w base e pz lz cz zs → 97 ≠ e → OwnL L w4 base e pz lz cz zs := fun o he => o.keep kw fun k hk e => (OwnL.neH o hb he) (by rw [hk, e])
  have o14 := own4 o1 (by decide)
  have o24 := own4 o2 (by decide)
  have o34 := own4 o3 (by decide)
  have hs4 : Has w4 bs (.cells (setV q.g p l c) 29 (0, 0)) := kw.has hs (hs.ne hb (by simp only [ne_eq, Obj.cells.injEq]; intro e; exact absurd e.2.1 (by decide)))
  have he4 : Has w4 be (.cells #[.int .u32 ep] 48 (0, 0)) := kw.has he (he.ne hb (by simp only [ne_eq, Obj.cells.injEq]; intro e; exact absurd e.2.1 (by decide)))
  have hsl4 : SlL dLay w4 p l (q.bks.map Prod.fst) := hsl.keep kw fun b o hb e => hpo b o hb e
  have hmend : ∀ {ks : List Int} {x' : Int} {s' : SS}, ks ≠ [] → True := fun _ => trivial
  refine LoopC_of (σ := Int × Unit) (fun st' w' => ∃ (j : Nat) (s' : SS) (fx : Int), st'.1 = (j : Int) ∧ j ≤ lw ∧ fx = xf + j ∧ SetAt w' q s' ∧ Has w' bo (.cells (repV ⟨xr + 1, xb + (lw : Int), fx, xl⟩) 97 (0, 0)) ∧ mendL q.g ep st off right (ws.drop j) fx s' = mendL q.g ep st off right ws xf s ∧ Keep (ScFoot q bo) w4 w') (fun st' _ => (lw - st'.1).toNat)
    ⟨0, s, xf, rfl, by omega, by omega, h4, hb4', rfl, Keep.refl _ _⟩ ?_
  rintro _ ⟨j, u⟩ w5 ⟨j', s', fx, hj, hjl, hfx, h5, hb5, hm, k5⟩
  simp only at hj ⊢
  subst hj
  have own5 : ∀ {α : Type} {L : Lay α} {base : Nat} {e : TypeId} {pz : Option Addr} {lz cz : Nat} {zs : List α}, OwnL L w4 base e pz lz cz zs → 97 ≠ e → (e ≠ 127 ∧ e ≠ 132 ∧ e ≠ 134) → OwnL L w5 base e pz lz cz zs := fun o he ht => o.keep k5 fun k hk e => by
    rcases e with e | e
    · exact (OwnL.neH o hb4' he) (by rw [hk, e])
    · rcases Own.cases o with ⟨h0, _⟩ | ⟨b', cur, h0, _, hg', _⟩
      · rw [h0] at hk; cases hk
      · rw [h0] at hk; cases hk
        exact h4.typ hg' ht.1 ht.2.1 ht.2.2 e
  have o15 := own5 o14 (by decide) (by decide)
  have o25 := own5 o24 (by decide) (by decide)
  have o35 := own5 o34 (by decide) (by decide)
  have nF : ∀ {b : Nat} {cs : Array Value} {t : TypeId}, Has w4 b (.cells cs t (0, 0)) → t ≠ 97 → t ≠ 127 → t ≠ 132 → t ≠ 134 → Has w5 b (.cells cs t (0, 0)) := fun hz a1 a2 a3 a4 => k5.has hz fun e => by
    rcases e with e | e
    · exact (hz.ne hb4' (by simp only [ne_eq, Obj.cells.injEq]; intro e; exact absurd e.2.1 a1)) e
    · exact h4.typ hz a2 a3 a4 e
  have hs5 := nF hs4 (by decide) (by decide) (by decide) (by decide)
  have he5 := nF he4 (by decide) (by decide) (by decide) (by decide)
  have hr5 := nF hr4 (by decide) (by decide) (by decide) (by decide)
  have hsl5 : SlL dLay w5 p l (q.bks.map Prod.fst) := hsl4.keep k5 fun b o hb e => by
    rcases e with e | e
    · exact hpo b o hb e
    · exact hpf b o hb e
  refine Cb_of (fun hc => ?_) (fun hc => ?_)
  · have hc : j' < lw := by
      have : (j' : Int) < (lw : Int) := by simpa using hc
      omega
    have ek : IntKind.wrap .i64 ((j' : Int) + 1) = ((j' + 1 : Nat) : Int) := by rw [wrapI (by omega) (by omega)]; omega
    obtain ⟨k, hk⟩ : ∃ k, ws[j']? = some k := ⟨_, List.getElem?_eq_getElem (by omega)⟩
    have hkr := hws k (List.mem_of_getElem? hk)
    have hdrop : ws.drop j' = k :: ws.drop (j' + 1) := by
      rw [List.drop_eq_getElem_cons (by omega)]
      congr 1
      exact (List.getElem?_eq_some_iff.1 hk).2
    rw [hdrop] at hm
    refine o35.sl.ld0 (i := (j' : Int)) (n := 1) (x := k) (v := .int .i64 k) rfl (by omega) (by rw [Int.toNat_natCast]; exact hk) rfl (OpI_int.2 ?_)
    refine LdV_has (v := .slice pp q.g.d.toNat cp) hr5 rfl (OpS_slice.2 ?_)
    have hpl : (rowP q.g st off q.g.d.toNat)[k.toNat]? = some (plcP q.g st off k) := by
      unfold rowP
      rw [List.getElem?_map, List.getElem?_range (by omega)]
      show some (plcP q.g st off ((k.toNat : Nat) : Int)) = _
      rw [show ((k.toNat : Nat) : Int) = k by omega]
    refine o15.sl.ldA (i := k) (n := 2) (x := plcP q.g st off k) rfl hkr.1 hpl ?_
    refine copy_of (by rw [zc_plc]; rfl) rfl (fun v hv => plLay.one _ v (by simpa using hv)) fun w6 hb6 k6 z6 => ?_
    have hb6 : Has w6 w5.heap.size (.cells (plcV (plcP q.g st off k)) 53 (0, 0)) := hb6
    obtain ⟨f, hf⟩ : ∃ f, right[k.toNat]? = some f := ⟨_, List.getElem?_eq_getElem (by omega)⟩
    have hput : putK q.g st off right k = ⟨plcP q.g st off k, ⟨f, sumS (plcP q.g st off k).at_ f⟩⟩ := by unfold putK; rw [List.getD_eq_getElem?_getD, hf]; rfl
    obtain ⟨pk1, pk2⟩ := plcP_ok h.geo hst hof k
    intro d
    have k56 := k6.trans (Keep.drew (fun _ => False) w6 d)
    have hb6d := hb6.dr d
    have z6d : (w6.dr d).heap.size = w5.heap.size + 1 := by rw [heap_dr']; exact z6
    generalize w6.dr d = w7 at *
    have hS7 : ∀ {w' : World} {T : Nat → Prop}, Keep T w7 w' → ¬ T bs → ¬ T be → ¬ T w.heap.size → ¬ T w5.heap.size → (∀ b, pc = some ⟨b, 0, none⟩ → ¬ T b) → Has w' bs (.cells (setV q.g p l c) 29 (0, 0)) ∧ Has w' be (.cells #[.int .u32 ep] 48 (0, 0)) ∧ Has w' w.heap.size (.cells (rowV pp q.g.d.toNat cp pc q.g.d.toNat cc pw lw cw) 154 (0, 0)) ∧ Has w' w5.heap.size (.cells (plcV (plcP q.g st off k)) 53 (0, 0)) ∧ SlL secLay w' pc q.g.d.toNat right :=
      fun k t1 t2 t3 t4 t5 => ⟨k.has (k56.has hs5 (by simp)) t1, k.has (k56.has he5 (by simp)) t2, k.has (k56.has hr5 (by simp)) t3, k.has hb6d t4, ((o25.keep k56 (by simp)).keep k t5).sl⟩
    have h07 := hS7 (Keep.refl (fun _ => False) w7) (by simp) (by simp) (by simp) (by simp) (by simp)
    generalize hpc : plcP q.g st off k = pl at *
    refine ⟨fun w' => Has w' bs (.cells (setV q.g p l c) 29 (0, 0)) ∧ Has w' be (.cells #[.int .u32 ep] 48 (0, 0)) ∧ Has w' w.heap.size (.cells (rowV pp q.g.d.toNat cp pc q.g.d.toNat cc pw lw cw) 154 (0, 0)) ∧ Has w' w5.heap.size (.cells (plcV pl) 53 (0, 0)) ∧ SlL secLay w' pc q.g.d.toNat right, h07, ?_⟩
    refine LdA_of (cs := setV q.g p l c) rfl (fun w' hw => ⟨_, _, _, hw.1, Nat.le_refl 4, rfl⟩) ?_
    refine LdA_of (cs := plcV pl) rfl (fun w' hw => ⟨_, _, _, hw.2.2.2.1, Nat.le_refl 2, rfl⟩) ?_
    refine LdV_of (v := .int .i64 pl.at_) (fun w' hw => ⟨_, _, _, hw.2.2.2.1, rfl⟩) (OpI_int.2 ?_)
    refine LdV_of (v := .slice pc q.g.d.toNat cc) (fun w' hw => ⟨_, _, _, hw.2.2.1, rfl⟩) (OpS_slice.2 ?_)
    refine SlL.ldAS (S := fun w' => Has w' bs (.cells (setV q.g p l c) 29 (0, 0)) ∧ Has w' be (.cells #[.int .u32 ep] 48 (0, 0)) ∧ Has w' w.heap.size (.cells (rowV pp q.g.d.toNat cp pc q.g.d.toNat cc pw lw cw) 154 (0, 0)) ∧ Has w' w5.heap.size (.cells (plcV pl) 53 (0, 0)) ∧ SlL secLay w' pc q.g.d.toNat right) (w0 := w7) h07 (fun w' hw => hw.2.2.2.2) (i := k) (x := f) (n := 16) rfl hkr.1 hf ?_
    have e16 : (secLay.row f).toArray = secV f := by show ((secV f).toList).toArray = secV f; simp
    rw [e16]
    refine LdV_of (v := .int .u32 ep) (fun w' hw => ⟨_, _, _, hw.2.1, rfl⟩) (OpI_int.2 ?_)
    refine s_Seal fun w8 k8 => OpA_agg.2 ⟨rfl, ⟨hS7 k8 (by simp) (by simp) (by simp) (by simp) (by simp), ?_⟩⟩
    refine ⟨.agg (putSV ⟨pl, ⟨f, sumS pl.at_ f⟩⟩), fun w' _ => bld_put ⟨pl, ⟨f, sumS pl.at_ f⟩⟩ w', OpA_agg.2 ⟨rfl, ?_⟩⟩
    refine ⟨_, _, bsl_pu1 _ w8, OpS_slice.2 ?_⟩
    have k9 := Keep.new (fun _ => False) w8 (.cells (putSV ⟨pl, ⟨f, sumS pl.at_ f⟩⟩) 110)
    have hb9 := Has.new w8 (.cells (putSV ⟨pl, ⟨f, sumS pl.at_ f⟩⟩) 110)
    have o9 : OwnL puLay (w8.alloc (.cells (putSV ⟨pl, ⟨f, sumS pl.at_ f⟩⟩) 110)) w8.heap.size 110 (some ⟨w8.heap.size, 0, none⟩) 1 1 [⟨pl, ⟨f, sumS pl.at_ f⟩⟩] := OwnL.new (L := puLay) (xs := [⟨pl, ⟨f, sumS pl.at_ f⟩⟩]) (by simp [maxLen]) (by rw [puLay.rows_one']; rfl)
    generalize w8.alloc (.cells (putSV ⟨pl, ⟨f, sumS pl.at_ f⟩⟩) 110) = w9 at *
    have k79 := k8.trans k9
    have k59 := k56.trans k79
    have h9 := h5.keep0 k59
    refine ⟨hS7 k79 (by simp) (by simp) (by simp) (by simp) (by simp), ?_⟩
    rw [← hput] at o9
    refine st_Apply h9 (hsl5.keepB k59 (by simp)) hlc hpf o9.sl (by omega) (fun b o hb hi => by cases hb; exact h9.typ hb9 (by decide) (by decide) (by decide) hi) fun w10 hS10 k10 => ?_
    have fT : ∀ {b : Nat} {cs : Array Value} {t : TypeId}, Has w9 b (.cells cs t (0, 0)) → t ≠ 127 → t ≠ 132 → t ≠ 134 → ¬ SFoot q b := fun hz a2 a3 a4 => h9.typ hz a2 a3 a4
    have hS9 := hS7 k79 (by simp) (by simp) (by simp) (by simp) (by simp)
    have o29 := (o25.keep k59 (by simp))
    refine OpI_int.2 ⟨⟨k10.has hS9.1 (fT hS9.1 (by decide) (by decide) (by decide)), k10.has hS9.2.1 (fT hS9.2.1 (by decide) (by decide) (by decide)), k10.has hS9.2.2.1 (fT hS9.2.2.1 (by decide) (by decide) (by decide)), k10.has hS9.2.2.2.1 (fT hS9.2.2.2.1 (by decide) (by decide) (by decide)), (o29.keep k10 fun b hb hi => ?_).sl⟩, ?_⟩
    · rcases Own.cases o29 with ⟨h0, _⟩ | ⟨b', cur, h0, _, hg', _⟩
      · rw [h0] at hb; cases hb
      · rw [h0] at hb; cases hb
        exact h9.typ hg' (by decide) (by decide) (by decide) hi
    · have k410 : Keep (ScFoot q bo) w4 w10 := (k5.trans (k59.mono fun _ h => h.elim)).trans (k10.mono fun k hk => Or.inr hk)
      have hb9o := k59.has hb5 (by simp)
      have hb10 := k10.has hb9o (fT hb9o (by decide) (by decide) (by decide))
      rw [mendL_cons] at hm
      refine Cb_of (fun e => ?_) (fun e => ?_)
      · have e : (applyS q.g s' [putK q.g st off right k] ep).1 ≠ 0 := by simpa using e
        rw [if_pos e] at hm
        rw [← hm] at hK
        refine Ret_nil.2 (hK w10 hS10 ?_ ((kw.mono fun k hk => Or.inl hk).trans k410))
        rw [← hlw]
        exact hb10
      · have e : (applyS q.g s' [putK q.g st off right k] ep).1 = 0 := by simpa using e
        rw [if_neg (fun h => h e)] at hm
        refine LdV_has (v := .int .i64 fx) hb10 rfl (OpI_int.2 ?_)
        rw [wrapI (by omega) (by omega)]
        refine StV_of hb10 (by show 2 < 4; decide) rfl ?_
        rw [rep_set2]
        have ku := Keep.one w10 bo (.cells (repV ⟨xr + 1, xb + (lw : Int), fx + 1, xl⟩) 97 (0, 0))
        refine ⟨_, by show ((lw : Int) - IntKind.wrap .i64 ((j' : Int) + 1)).toNat < ((lw : Int) - (j' : Int)).toNat; rw [ek]; omega, ⟨j' + 1, _, fx + 1, ek, by omega, by omega, hS10.keep ku ?_, hb10.upd_same _, hm, k410.trans (ku.mono fun k hk => Or.inl hk)⟩, rfl⟩
        exact fun i hi e => hSo i hi e
  · have hc : j' = lw := by
      have : ¬ (j' : Int) < (lw : Int) := by simpa using hc
      omega
    subst hc
    rw [List.drop_of_length_le (by omega)] at hm
    have hm : (0, fx, s') = mendL q.g ep st off right ws xf s := hm
    rw [← hm] at hK
    refine Ret_nil.2 (hK w5 h5 ?_ ((kw.mono fun k hk => Or.inl hk).trans k5))
    rw [← hlw]
    exact hb5
end calls
end Go.Proofs

/-
  A SCRUB: the rows of a stripe, and the whole.
-/
namespace Go.Proofs
open Go Go.Ev
set_option linter.unusedSimpArgs false
set_option linter.unusedVariables false
set_option maxRecDepth 100000

theorem writeD_ok {pw : Pow} {D : Dsk} (h : DskOk D) {at_ : Int} {c : Cel} (hc : CelOk c) {ep : Int} : DskOk (writeD pw D at_ c ep).2.2 := by
  unfold writeD
  split
  · exact h
  · split
    · exact h
    · split
      · exact h
      · split
        · exact h
        · refine ⟨fun y hy => ?_, h.2⟩
          rcases List.mem_or_eq_of_mem_set hy with hy | rfl
          · exact h.1 y hy
          · exact hc
theorem getD_dok {l : List Dsk} (h : ∀ D ∈ l, DskOk D) (i : Nat) : DskOk (l.getD i dsk0) := by
  rw [List.getD_eq_getElem?_getD]
  cases hx : l[i]? with
  | none => exact dsk0_ok
  | some D => exact h D (List.mem_of_getElem? hx)
theorem apply1_dok {s : SS} (h : ∀ D ∈ s.ds, DskOk D) {x : PutS} (hc : CelOk x.cel) (ep : Int) : ∀ D ∈ (apply1 s x ep).2.ds, DskOk D := by
  intro D hD
  have hD : D ∈ s.ds.set x.plc.dk.toNat (writeD s.pw (s.ds.getD x.plc.dk.toNat dsk0) x.plc.at_ x.cel ep).2.2 := hD
  rcases List.mem_or_eq_of_mem_set hD with hD | rfl
  · exact h D hD
  · exact writeD_ok (getD_dok h _) hc
theorem applyL_dok {ep : Int} : ∀ {xs : List PutS} {s : SS}, (∀ D ∈ s.ds, DskOk D) → (∀ x ∈ xs, CelOk x.cel) → ∀ D ∈ (applyL ep xs s).2.ds, DskOk D
  | [], s, h, _ => h
  | x :: xs, s, h, hx => by
    show ∀ D ∈ (if _ ∧ _ then _ else _ : Int × SS).2.ds, DskOk D
    split
    · exact apply1_dok h (hx x (by simp)) ep
    · exact applyL_dok (apply1_dok h (hx x (by simp)) ep) fun y hy => hx y (by simp [hy])
theorem applyS_dok {g : Geo} {ep : Int} {xs : List PutS} {s : SS} (h : ∀ D ∈ s.ds, DskOk D) (hx : ∀ x ∈ xs, CelOk x.cel) : ∀ D ∈ (applyS g s xs ep).2.ds, DskOk D := by
  unfold applyS
  split
  · exact applyL_dok h hx
  · exact h
theorem putK_cok {g : Geo} {st off : Int} {row : List Sec} (h : ∀ f ∈ row, SecOk f) (k : Int) : CelOk (putK g st off row k).cel := by
  refine ⟨?_, (sumS_ok _ _).1, (sumS_ok _ _).2⟩
  show SecOk (row.getD k.toNat (sec []))
  rw [List.getD_eq_getElem?_getD]
  cases hx : row[k.toNat]? with
  | none => exact sec0_ok
  | some f => exact h f (List.mem_of_getElem? hx)
theorem mendL_dok {g : Geo} {ep st off : Int} {right : List Sec} (hr : ∀ f ∈ right, SecOk f) : ∀ {ks : List Int} {x : Int} {s : SS}, (∀ D ∈ s.ds, DskOk D) → ∀ D ∈ (mendL g ep st off right ks x s).2.2.ds, DskOk D
  | [], x, s, h => h
  | k :: ks, x, s, h => by
    have h1 := applyS_dok (g := g) (ep := ep) (xs := [putK g st off right k]) h fun y hy => by rw [List.mem_singleton.1 hy]; exact putK_cok hr k
    rw [mendL_cons]
    split
    · exact h1
    · exact mendL_dok hr h1
theorem scrubL_succ (g : Geo) (ep st : Int) (n : Nat) (off : Int) (x : Rep) (s : SS) : scrubL g ep st (n + 1) off x s = if s.pw.on = false then (4, x, s)
    else if lostN (colsS g s st off) ≤ 2 then
      if (mendL g ep st off (rightS (rowR (colsS g s st off))) (wrongS g s st off) x.fixed s).1 ≠ 0 then ((mendL g ep st off (rightS (rowR (colsS g s st off))) (wrongS g s st off) x.fixed s).1, ⟨x.rows + 1, x.bad + (wrongS g s st off).length, (mendL g ep st off (rightS (rowR (colsS g s st off))) (wrongS g s st off) x.fixed s).2.1, x.lost⟩, (mendL g ep st off (rightS (rowR (colsS g s st off))) (wrongS g s st off) x.fixed s).2.2)
      else scrubL g ep st n (off + 1) ⟨x.rows + 1, x.bad + (wrongS g s st off).length, (mendL g ep st off (rightS (rowR (colsS g s st off))) (wrongS g s st off) x.fixed s).2.1, x.lost⟩ (mendL g ep st off (rightS (rowR (colsS g s st off))) (wrongS g s st off) x.fixed s).2.2
    else scrubL g ep st n (off + 1) ⟨x.rows + 1, x.bad, x.fixed, x.lost + 1⟩ s := rfl
section calls
variable {w : World} {q : SB} {s : SS} {R : Value → World → Prop}
theorem sc_rows (h : SetAt w q s) {p : Option Addr} {l c : Nat} (hsl : SlL dLay w p l (q.bks.map Prod.fst)) (hlc : l ≤ c) (hpf : ∀ b o, p = some ⟨b, o, none⟩ → ¬ SFoot q b) {bo bs be : Nat} (hpo : ∀ b o, p = some ⟨b, o, none⟩ → b ≠ bo) (hok : ∀ D ∈ s.ds, DskOk D) {st ep : Int} (hst : 0 ≤ st ∧ st < q.g.s)
    (hb : Has w bo (.cells (repV rep0) 97 (0, 0))) (hs : Has w bs (.cells (setV q.g p l c) 29 (0, 0))) (he : Has w be (.cells #[.int .u32 ep] 48 (0, 0)))
    (hK : ∀ w', SetAt w' q (scrubS q.g s st ep).2.2 → Has w' bo (.cells (repV (scrubS q.g s st ep).2.1) 97 (0, 0)) → Keep (ScFoot q bo) w w' → R (.int .i64 (scrubS q.g s st ep).1) w') :
    CallV Try.prog 70 #[.agg (setV q.g p l c), .int .i64 st, .func (.func 71) #[] #[.pointer (some ⟨bo, 0, none⟩), .pointer (some ⟨bs, 0, none⟩), .pointer (some ⟨be, 0, none⟩)]] w R := by
  apply C_RowsScrub
  unfold F_RowsScrub
  have hgd := h.geo.d
  have hgc := h.geo.c
  refine alc_fresh fun w1 hb1 k1 z1 => ?_
  refine LdV_has (v := .int .i64 q.g.c) hb1 rfl (OpI_int.2 ?_)
  have hbo1 := k1.has hb (by simp)
  have h1 := h.keep0 k1
  have hs1 := k1.has hs (by simp)
  have he1 := k1.has he (by simp)
  have hsl1 : SlL dLay w1 p l (q.bks.map Prod.fst) := hsl.keepB k1 (by simp)
  have hrep0 : RepLe rep0 (32 * ((0 : Nat) : Int)) := by
    refine ⟨?_, ?_, ?_, ?_⟩ <;> (show (0 : Int) ≤ 0 ∧ (0 : Int) ≤ 32 * ((0 : Nat) : Int); omega)
  refine LoopC_of (σ := Int × Unit) (fun st' w' => ∃ (i : Nat) (x : Rep) (s' : SS), st'.1 = (i : Int) ∧ i ≤ q.g.c.toNat ∧ RepLe x (32 * (i : Int)) ∧ (∀ D ∈ s'.ds, DskOk D) ∧ SetAt w' q s' ∧ Has w' bo (.cells (repV x) 97 (0, 0)) ∧ scrubL q.g ep st (q.g.c.toNat - i) (i : Int) x s' = scrubS q.g s st ep ∧ Keep (ScFoot q bo) w1 w') (fun st' _ => (q.g.c - st'.1).toNat)
    ⟨0, rep0, s, rfl, by omega, hrep0, hok, h1, hbo1, rfl, Keep.refl _ _⟩ ?_
  rintro _ ⟨i, u⟩ w2 ⟨i', x, s', hi, hil, hx, hok', h2, hbo2, hm, k2⟩
  simp only at hi ⊢
  subst hi
  have nF : ∀ {b : Nat} {cs : Array Value} {t : TypeId}, Has w1 b (.cells cs t (0, 0)) → t ≠ 97 → t ≠ 127 → t ≠ 132 → t ≠ 134 → Has w2 b (.cells cs t (0, 0)) := fun hz a1 a2 a3 a4 => k2.has hz fun e => by
    rcases e with e | e
    · exact (hz.ne hbo1 (by simp only [ne_eq, Obj.cells.injEq]; intro e; exact absurd e.2.1 a1)) e
    · exact h1.typ hz a2 a3 a4 e
  have hs2 := nF hs1 (by decide) (by decide) (by decide) (by decide)
  have he2 := nF he1 (by decide) (by decide) (by decide) (by decide)
  have hb2 := nF hb1 (by decide) (by decide) (by decide) (by decide)
  have hsl2 : SlL dLay w2 p l (q.bks.map Prod.fst) := hsl1.keep k2 fun b o hb e => by
    rcases e with e | e
    · exact hpo b o hb e
    · exact hpf b o hb e
  have kw : Keep (ScFoot q bo) w w2 := (k1.mono fun _ h => h.elim).trans k2
  refine Cb_of (fun hc => ?_) (fun hc => ?_)
  · have hc : (i' : Int) < q.g.c := by simpa using hc
    have ek : IntKind.wrap .i64 ((i' : Int) + 1) = ((i' + 1 : Nat) : Int) := by rw [wrapI (by omega) (by omega)]; omega
    have hn : q.g.c.toNat - i' = (q.g.c.toNat - (i' + 1)) + 1 := by omega
    rw [hn, scrubL_succ] at hm
    have hof : 0 ≤ (i' : Int) ∧ (i' : Int) < q.g.c := by omega
    refine LdA_all hb2 rfl ?_
    have keepx : ∀ {w' : World}, Keep (fun _ => False) w2 w' → Keep (ScFoot q bo) w w' := fun k => kw.trans (k.mono fun _ h => h.elim)
    refine sc_look h2 hsl2 hlc hok' hst hof (fun hp w3 k3 => ?_) (fun hp hl w3 k3 => ?_) fun hp hl pp cp pc cc pw lw cw w3 o1 o2 o3 k3 => ?_
    · refine T2_mk.2 (OpA_agg.2 ⟨rfl, OpI_int.2 ?_⟩)
      refine Scrub1_err (by decide) (by decide) fun w4 k4 => OpI_int.2 ((Cb_true (q := _)).2 (Ret_nil.2 ?_))
      rw [if_pos hp] at hm
      rw [← hm] at hK
      have k24 := k3.trans k4
      exact hK w4 (h2.keep0 k24) (k24.has hbo2 (by simp)) (keepx k24)
    · refine T2_mk.2 (OpA_agg.2 ⟨rfl, OpI_int.2 ?_⟩)
      rw [if_neg (by rw [hp]; decide), if_neg hl] at hm
      have hbo3 := k3.has hbo2 (by simp)
      have h3 := h2.keep0 k3
      refine Scrub1_lost hbo3 (N := 32 * (i' : Int)) hx (by omega) fun w4 hb4 k4 => OpI_int.2 ((Cb_false (p := _)).2 ?_)
      refine ⟨_, by show (q.g.c - IntKind.wrap .i64 ((i' : Int) + 1)).toNat < (q.g.c - (i' : Int)).toNat; rw [ek]; omega, ⟨i' + 1, _, s', ek, by omega, ?_, hok', h3.keep k4 (fun i hi e => ?_), hb4, hm, ?_⟩, rfl⟩
      · obtain ⟨a1, a2, a3, a4⟩ := hx
        refine ⟨?_, ?_, ?_, ?_⟩ <;> simp only <;> omega
      · rw [e] at hi; exact h3.typ hbo3 (by decide) (by decide) (by decide) hi
      · exact (k2.trans (k3.mono fun _ h => h.elim)).trans (k4.mono fun k hk => Or.inl hk)
    · refine T2_mk.2 (OpA_agg.2 ⟨rfl, OpI_int.2 ?_⟩)
      rw [if_neg (by rw [hp]; decide), if_pos hl] at hm
      have hlw := o3.length
      have hwl : lw ≤ 32 := by
        rw [hlw]
        exact Nat.le_trans (wrongL_len _ _ _ _ _ _ _ _) (by omega)
      have hrok := rightS_ok (rowR_ok (colsS_ok (g := q.g) (st := st) (off := (i' : Int)) hok'))
      have hbo3 := k3.has hbo2 (by simp)
      have h3 := h2.keep0 k3
      refine Scrub1_ok h3 (hsl2.keepB k3 (by simp)) hlc hpf hpo hst hof hbo3 (k3.has hs2 (by simp)) (k3.has he2 (by simp)) (N := 32 * (i' : Int)) hx (by omega) o1 o2 o3 (fun k hk => by have := (mem_wrongL hk).1; omega) hwl fun w4 hS4 hb4 k4 => OpI_int.2 ?_
      have hlen := mendL_len (g := q.g) (ep := ep) (st := st) (off := (i' : Int)) (right := rightS (rowR (colsS q.g s' st (i' : Int)))) (ks := wrongS q.g s' st (i' : Int)) (x := x.fixed) (s := s')
      have hok4 := mendL_dok (g := q.g) (ep := ep) (st := st) (off := (i' : Int)) hrok (ks := wrongS q.g s' st (i' : Int)) (x := x.fixed) hok'
      have hS4 : SetAt w4 q (mendL q.g ep st (i' : Int) (rightS (rowR (colsS q.g s' st (i' : Int)))) (wrongS q.g s' st (i' : Int)) x.fixed s').2.2 := hS4
      have hb4 : Has w4 bo (.cells (repV ⟨x.rows + 1, x.bad + (wrongS q.g s' st (i' : Int)).length, (mendL q.g ep st (i' : Int) (rightS (rowR (colsS q.g s' st (i' : Int)))) (wrongS q.g s' st (i' : Int)) x.fixed s').2.1, x.lost⟩) 97 (0, 0)) := hb4
      have hwl' : (wrongS q.g s' st (i' : Int)).length ≤ 32 := Nat.le_trans (wrongL_len _ _ _ _ _ _ _ _) (by omega)
      show Cb ((mendL q.g ep st (i' : Int) (rightS (rowR (colsS q.g s' st (i' : Int)))) (wrongS q.g s' st (i' : Int)) x.fixed s').1 != 0) (Ret [] (R (.int .i64 (mendL q.g ep st (i' : Int) (rightS (rowR (colsS q.g s' st (i' : Int)))) (wrongS q.g s' st (i' : Int)) x.fixed s').1) w4)) _
      generalize mendL q.g ep st (i' : Int) (rightS (rowR (colsS q.g s' st (i' : Int)))) (wrongS q.g s' st (i' : Int)) x.fixed s' = M at *
      have k04 : Keep (ScFoot q bo) w w4 := (keepx k3).trans k4
      refine Cb_of (fun e => ?_) (fun e => ?_)
      · have e : M.1 ≠ 0 := by simpa using e
        rw [if_pos e] at hm
        rw [← hm] at hK
        exact Ret_nil.2 (hK w4 hS4 hb4 k04)
      · have e : M.1 = 0 := by simpa using e
        rw [if_neg (fun h => h e)] at hm
        refine ⟨_, by show (q.g.c - IntKind.wrap .i64 ((i' : Int) + 1)).toNat < (q.g.c - (i' : Int)).toNat; rw [ek]; omega, ⟨i' + 1, _, M.2.2, ek, by omega, ?_, hok4, hS4, hb4, hm, ?_⟩, rfl⟩
        · obtain ⟨a1, a2, a3, a4⟩ := hx
          refine ⟨?_, ?_, ?_, ?_⟩ <;> simp only <;> omega
        · exact (k2.trans (k3.mono fun _ h => h.elim)).trans k4
  · have hc : q.g.c.toNat - i' = 0 := by
      have : ¬ (i' : Int) < q.g.c := by simpa using hc
      omega
    rw [hc] at hm
    have hm : (0, x, s') = scrubS q.g s st ep := hm
    rw [← hm] at hK
    exact Ret_nil.2 (hK w2 h2 hbo2 kw)
theorem sc_Scrub (h : SetAt w q s) {p : Option Addr} {l c : Nat} (hsl : SlL dLay w p l (q.bks.map Prod.fst)) (hlc : l ≤ c) (hpf : ∀ b o, p = some ⟨b, o, none⟩ → ¬ SFoot q b) (hok : ∀ D ∈ s.ds, DskOk D) {st ep : Int}
    (hBad : ¬ (0 ≤ st ∧ st < q.g.s) → ∀ w', Keep (fun _ => False) w w' → R (.tuple #[.agg (repV rep0), .int .i64 2]) w')
    (hK : (0 ≤ st ∧ st < q.g.s) → ∀ w', SetAt w' q (scrubS q.g s st ep).2.2 → Keep (SFoot q) w w' → R (.tuple #[.agg (repV (if (scrubS q.g s st ep).1 = 0 then (scrubS q.g s st ep).2.1 else rep0)), .int .i64 (scrubS q.g s st ep).1]) w') :
    CallV Try.prog 38 #[.agg (setV q.g p l c), .int .i64 st, .int .u32 ep] w R := by
  apply C_scrub_Scrub
  unfold F_scrub_Scrub
  refine alc_fresh fun w1 hb1 k1 z1 => ?_
  refine alc_fresh fun w2 hb2 k2 z2 => ?_
  refine alc_fresh fun w3 hb3 k3 z3 => ?_
  rw [repV_zero] at hb3
  have hb13 := (k2.trans k3).has hb1 (by simp)
  have hb23 := k3.has hb2 (by simp)
  have k03 := (k1.trans k2).trans k3
  refine LdA_all hb13 rfl ?_
  refine st_Check (h.keep0 k03) (hsl.keepB k03 (by simp)) hlc fun w4 k4 => ?_
  refine OpI_int.2 ((Cb_false (p := _)).2 ?_)
  have k04 := k03.trans k4
  have hb14 := k4.has hb13 (by simp)
  have hb24 := k4.has hb23 (by simp)
  have hb34 := k4.has hb3 (by simp)
  have bad : ∀ (e : Int) (w5 : World) (T : Nat → Prop), Has w5 w2.heap.size (.cells (repV rep0) 97 (0, 0)) → (Keep (fun k => k = w2.heap.size) w5 (w5.upd w2.heap.size (.cells (repV rep0) 97 (0, 0))) → R (.tuple #[.agg (repV rep0), .int .i64 e]) (w5.upd w2.heap.size (.cells (repV rep0) 97 (0, 0)))) →
      DoQ Try.prog (Instr.build 97 #[]) (At w5) fun v1 => OpA 4 v1 fun cs1 => StA 4 w2.heap.size 0 cs1 w5 fun w => LdA 4 w2.heap.size 0 (At w) fun cs2 => Ret [] (R (.tuple #[.agg cs2, .int .i64 e]) w) := by
    intro e w5 T hb5 hR
    refine DoQ_of (v := .agg (repV rep0)) (fun _ => run_build _ _ _ _ (by kernel_rfl)) (OpA_agg.2 ⟨rfl, ?_⟩)
    refine StA_all hb5 rfl rfl (one_repV _) ?_
    exact LdA_all (hb5.upd_same _) rfl (Ret_nil.2 (hR (Keep.one _ _ _)))
  refine Cb_of (fun hc => ?_) (fun hc => ?_)
  · have hc : st < 0 := by simpa using hc
    refine bad 2 w4 (fun _ => False) hb34 fun ku => hBad (by omega) _ (k04.trans' ku fun i hi e => by omega)
  · have hc : ¬ st < 0 := by simpa using hc
    refine LdV_has (v := .int .i64 q.g.s) hb14 rfl (OpI_int.2 ?_)
    refine Cb_of (fun hc2 => ?_) (fun hc2 => ?_)
    · have hc2 : st ≥ q.g.s := by simpa using hc2
      exact bad 2 w4 (fun _ => False) hb34 fun ku => hBad (by omega) _ (k04.trans' ku fun i hi e => by omega)
    · have hc2 : ¬ st ≥ q.g.s := by simpa using hc2
      have hst : 0 ≤ st ∧ st < q.g.s := by omega
      refine alc_fresh fun w5 hb5 k5 z5 => ?_
      rw [repV_zero] at hb5
      have k05 := k04.trans k5
      refine LdA_all (k5.has hb14 (by simp)) rfl ?_
      have h5 := h.keep0 k05
      have z45 := k04.size
      have z34 := k4.size
      refine sc_rows h5 (hsl.keepB k05 (by simp)) hlc hpf (bo := w4.heap.size) (fun b o hb e => ?_) hok hst hb5 (k5.has hb14 (by simp)) (k5.has hb24 (by simp)) fun w6 hS6 hb6 k6 => OpI_int.2 ?_
      · subst hb
        have := SlL.blk_lt hsl (by have h1 := hsl.1; rw [List.length_map, h.len] at h1; have := h.num; have := h.geo.d; omega)
        omega
      have hK := hK hst
      generalize scrubS q.g s st ep = M at *
      have hb36 : Has w6 w2.heap.size (.cells (repV rep0) 97 (0, 0)) := k6.has (k5.has hb34 (by simp)) fun e => by
        rcases e with e | e
        · omega
        · exact h5.typ (k5.has hb34 (by simp)) (by decide) (by decide) (by decide) e
      have fin : ∀ (y : Rep), Keep (fun k => k = w2.heap.size) w6 (w6.upd w2.heap.size (.cells (repV y) 97 (0, 0))) → SetAt (w6.upd w2.heap.size (.cells (repV y) 97 (0, 0))) q M.2.2 ∧ Keep (SFoot q) w (w6.upd w2.heap.size (.cells (repV y) 97 (0, 0))) := fun y ku =>
        ⟨hS6.keep ku fun i hi e => by rw [e] at hi; exact hS6.typ hb36 (by decide) (by decide) (by decide) hi, ((k05.mono fun _ h => h.elim).trans' k6 fun i hi e => by
          rcases e with e | e
          · omega
          · exact e).trans' ku fun i hi e => by omega⟩
      refine Cb_of (fun e => ?_) (fun e => ?_)
      · have e : M.1 ≠ 0 := by simpa using e
        rw [if_neg e] at hK
        exact bad M.1 w6 (fun _ => False) hb36 fun ku => hK _ (fin rep0 ku).1 (fin rep0 ku).2
      · have e : M.1 = 0 := by simpa using e
        rw [if_pos e] at hK
        refine LdA_all hb6 rfl ?_
        refine StA_all hb36 rfl rfl (one_repV _) ?_
        refine LdA_all (hb36.upd_same _) rfl (Ret_nil.2 ?_)
        rw [e] at hK
        exact hK _ (fin M.2.1 (Keep.one _ _ _)).1 (fin M.2.1 (Keep.one _ _ _)).2
end calls
end Go.Proofs

/-
  IS A SET SOUND: what scrub.Sound answers; the walks.
-/
namespace Go.Proofs
open Go Go.Ev
set_option linter.unusedSimpArgs false
set_option linter.unusedVariables false
set_option maxRecDepth 100000

def aliveP (s : SS) (x : Plc) : Bool := !(s.ds.getD x.dk.toNat dsk0).dead
/-- a row is sound -/
def RowSound (g : Geo) (s : SS) (st off : Int) : Prop := lostN (colsS g s st off) ≤ 2 ∧ (rowP g st off g.d.toNat).all (aliveP s) = true ∧ wrongS g s st off = []
def SetSound (g : Geo) (s : SS) : Prop := ∀ st off : Int, 0 ≤ st ∧ st < g.s → 0 ≤ off ∧ off < g.c → RowSound g s st off
theorem rowP_in {g : Geo} (hg : GeoOk g) {st off : Int} (hst : 0 ≤ st ∧ st < g.s) (hof : 0 ≤ off ∧ off < g.c) {n : Nat} {x : Plc} (hx : x ∈ rowP g st off n) : 0 ≤ x.dk ∧ x.dk < g.d := by
  unfold rowP at hx
  obtain ⟨k, _, rfl⟩ := List.mem_map.1 hx
  exact (plcP_ok hg hst hof _).1
section calls
variable {w : World} {q : SB} {s : SS} {R : Value → World → Prop}
theorem Sound1_ok (h : SetAt w q s) {p : Option Addr} {l c : Nat} (hsl : SlL dLay w p l (q.bks.map Prod.fst)) {bo bs : Nat} (hpo : ∀ b o, p = some ⟨b, o, none⟩ → b ≠ bo) {g0 : Bool} {e : Int} (he : e ≠ 4)
    (hb : Has w bo (.cells #[.bool g0] 4 (0, 0))) (hs : Has w bs (.cells (setV q.g p l c) 29 (0, 0)))
    {base : Nat} {pp pc pw : Option Addr} {np cp nc cc lw cw : Nat} {ps : List Plc} (o1 : OwnL plLay w base 53 pp np cp ps) (hps : ∀ x ∈ ps, 0 ≤ x.dk ∧ x.dk < q.g.d) (hnp : np ≤ 1000000)
    (hK : ∀ w', Has w' bo (.cells #[.bool (g0 && ps.all (aliveP s) && (e == 0) && (lw == 0))] 4 (0, 0)) → Keep (fun k => k = bo) w w' → R (.int .i64 0) w') :
    CallV Try.prog 72 #[.agg (rowV pp np cp pc nc cc pw lw cw), .int .i64 e, .pointer (some ⟨bo, 0, none⟩), .pointer (some ⟨bs, 0, none⟩)] w R := by
  apply C_Sound1
  unfold F_Sound1
  refine alc_fresh fun w1 hb1 k1 z1 => ?_
  rw [show (e == 4) = false by simpa using he]
  refine (Cb_false (p := _)).2 ?_
  refine LdV_has (v := .slice pp np cp) hb1 rfl (OpS_slice.2 ?_)
  have hnl := o1.length
  have hbo1 := k1.has hb (by simp)
  have hbne : w.heap.size ≠ bo := by have := hb.lt; omega
  refine LoopC_of (σ := Int × Unit) (fun st' w' => ∃ j : Nat, st'.1 = (j : Int) ∧ j ≤ np ∧ Has w' bo (.cells #[.bool (g0 && (ps.take j).all (aliveP s))] 4 (0, 0)) ∧ Keep (fun k => k = bo) w1 w') (fun st' _ => (np - st'.1).toNat)
    ⟨0, rfl, by omega, by rw [List.take_zero]; show Has w1 bo (.cells #[.bool (g0 && true)] _ _); rw [Bool.and_true]; exact hbo1, Keep.refl _ _⟩ ?_
  rintro _ ⟨j, u⟩ w2 ⟨j', hj, hjl, hbo2, k2⟩
  simp only at hj ⊢
  subst hj
  have kw : Keep (fun k => k = bo) w w2 := (k1.mono fun _ h => h.elim).trans k2
  have hSo : ∀ i, SFoot q i → ¬ i = bo := fun i hi e => by rw [e] at hi; exact h.typ hb (by decide) (by decide) (by decide) hi
  refine Cb_of (fun hc => ?_) (fun hc => ?_)
  · have hc : j' < np := by
      have : (j' : Int) < (np : Int) := by simpa using hc
      omega
    have ek : IntKind.wrap .i64 ((j' : Int) + 1) = ((j' + 1 : Nat) : Int) := by rw [wrapI (by omega) (by omega)]; omega
    obtain ⟨x, hx⟩ : ∃ x, ps[j']? = some x := ⟨_, List.getElem?_eq_getElem (by omega)⟩
    have hxr := hps x (List.mem_of_getElem? hx)
    have o12 := o1.keep kw fun k hk e => (OwnL.neH o1 hb (by decide)) (by rw [hk, e])
    refine o12.sl.ldA (i := (j' : Int)) (n := 2) (x := x) rfl (by omega) (by rw [Int.toNat_natCast]; exact hx) ?_
    refine copy_of (by rw [zc_plc]; rfl) rfl (fun v hv => plLay.one _ v (by simpa using hv)) fun w3 hb3 k3 z3 => ?_
    have hb3 : Has w3 w2.heap.size (.cells (plcV x) 53 (0, 0)) := hb3
    have hbo3 := k3.has hbo2 (by simp)
    have kw3 := kw.trans (k3.mono fun _ h => h.elim)
    have hs3 : Has w3 bs (.cells (setV q.g p l c) 29 (0, 0)) := kw3.has hs (hs.ne hb (by simp only [ne_eq, Obj.cells.injEq]; intro e; exact absurd e.2.1 (by decide)))
    have hsl3 : SlL dLay w3 p l (q.bks.map Prod.fst) := hsl.keep kw3 fun b o hb e => hpo b o hb e
    have h3 := h.keep kw3 hSo
    have htk : ps.take (j' + 1) = ps.take j' ++ [x] := by rw [List.take_add_one, hx]; rfl
    have hall : (g0 && (ps.take (j' + 1)).all (aliveP s)) = ((g0 && (ps.take j').all (aliveP s)) && aliveP s x) := by
      rw [htk, List.all_append, List.all_cons, List.all_nil, Bool.and_true, Bool.and_assoc]
    have next : ∀ b : Bool, b = (g0 && (ps.take (j' + 1)).all (aliveP s)) → StV bo 0 (.bool b) w3 fun w => ∃ mm : Nat, mm < ((np : Int) - (j' : Int)).toNat ∧ ((∃ j : Nat, IntKind.wrap .i64 ((j' : Int) + 1) = (j : Int) ∧ j ≤ np ∧ Has w bo (.cells #[.bool (g0 && (ps.take j).all (aliveP s))] 4 (0, 0)) ∧ Keep (fun k => k = bo) w1 w) ∧ ((np : Int) - IntKind.wrap .i64 ((j' : Int) + 1)).toNat = mm) := by
      intro b hbb
      refine StV_of hbo3 (by show 0 < 1; decide) rfl ?_
      refine ⟨_, by rw [ek]; omega, ⟨j' + 1, ek, by omega, by rw [← hbb]; exact hbo3.upd_same _, (k2.trans (k3.mono fun _ h => h.elim)).trans (Keep.one _ _ _)⟩, rfl⟩
    refine LdV_has (v := .bool (g0 && (ps.take j').all (aliveP s))) hbo3 rfl (OpB_bool.2 ?_)
    refine Cb_of (fun e1 => ?_) (fun e1 => ?_)
    · refine LdV_has (v := .slice p l c) hs3 rfl (OpS_slice.2 ?_)
      refine LdV_has (v := .int .i64 x.dk) hb3 rfl (OpI_int.2 ?_)
      obtain ⟨bd, rd, D, hbk, hD, hda, hdl⟩ := h3.get (i := x.dk.toNat) (by have := h3.num; omega)
      have hDg : s.ds.getD x.dk.toNat dsk0 = D := by rw [List.getD_eq_getElem?_getD, hD]; rfl
      refine hsl3.ld0 (i := x.dk) (n := 1) (x := bd) (v := .pointer (some ⟨bd, 0, none⟩)) rfl hxr.1 (by rw [List.getElem?_map, hbk]; rfl) rfl (OpN_some.2 ?_)
      refine d_Alive hda (OpB_bool.2 (next _ ?_))
      rw [hall, e1]
      unfold aliveP
      rw [hDg]
      rfl
    · refine next false ?_
      rw [hall, e1]; rfl
  · have hc : j' = np := by
      have : ¬ (j' : Int) < (np : Int) := by simpa using hc
      omega
    subst hc
    rw [hnl, List.take_length] at hbo2
    refine LdV_has (v := .bool (g0 && ps.all (aliveP s))) hbo2 rfl (OpB_bool.2 ⟨by trivial, by trivial, ?_⟩)
    have hr2 := k2.has hb1 hbne
    refine Cb_of (fun e1 => ?_) (fun e1 => ?_)
    · refine LdV_has (v := .slice pw lw cw) hr2 rfl (OpS_slice.2 ?_)
      refine StV_of hbo2 (by show 0 < 1; decide) rfl (Ret_nil.2 (hK _ ?_ (kw.trans (Keep.one _ _ _))))
      have : (g0 && ps.all (aliveP s) && (e == 0) && (lw == 0)) = (((lw : Nat) : Int) == 0) := by
        have e1 : (g0 && ps.all (aliveP s) && (e == 0)) = true := by
          revert e1
          cases (g0 && ps.all (aliveP s)) <;> simp
        rw [e1, Bool.true_and]
        cases lw with
        | zero => rfl
        | succ n => rfl
      rw [this]
      exact hbo2.upd_same _
    · refine StV_of hbo2 (by show 0 < 1; decide) rfl (Ret_nil.2 (hK _ ?_ (kw.trans (Keep.one _ _ _))))
      have : (g0 && ps.all (aliveP s) && (e == 0) && (lw == 0)) = false := by
        have e1 : (g0 && ps.all (aliveP s) && (e == 0)) = false := by
          revert e1
          cases (g0 && ps.all (aliveP s)) <;> simp
        rw [e1, Bool.false_and]
      rw [this]
      exact hbo2.upd_same _
theorem Sound1_off {bo bs : Nat} {rv : Array Value} (hK : ∀ w', Keep (fun _ => False) w w' → R (.int .i64 4) w') :
    CallV Try.prog 72 #[.agg rv, .int .i64 4, .pointer (some ⟨bo, 0, none⟩), .pointer (some ⟨bs, 0, none⟩)] w R := by
  apply C_Sound1
  unfold F_Sound1
  exact alc_fresh fun w1 hb1 k1 z1 => (Cb_true (q := _)).2 (Ret_nil.2 (hK w1 k1))
theorem sc_rowsS (h : SetAt w q s) {p : Option Addr} {l c : Nat} (hsl : SlL dLay w p l (q.bks.map Prod.fst)) (hlc : l ≤ c) (hok : ∀ D ∈ s.ds, DskOk D) {bo bs : Nat} (hpo : ∀ b o, p = some ⟨b, o, none⟩ → b ≠ bo) {g0 : Bool} {st : Int} (hst : 0 ≤ st ∧ st < q.g.s)
    (hb : Has w bo (.cells #[.bool g0] 4 (0, 0))) (hs : Has w bs (.cells (setV q.g p l c) 29 (0, 0)))
    (hOff : s.pw.on = false → ∀ w', Keep (fun k => k = bo) w w' → R (.int .i64 4) w')
    (hK : s.pw.on = true → ∀ (g1 : Bool) w', (g1 = true ↔ g0 = true ∧ ∀ off : Int, 0 ≤ off ∧ off < q.g.c → RowSound q.g s st off) → Has w' bo (.cells #[.bool g1] 4 (0, 0)) → Keep (fun k => k = bo) w w' → R (.int .i64 0) w') :
    CallV Try.prog 70 #[.agg (setV q.g p l c), .int .i64 st, .func (.func 72) #[] #[.pointer (some ⟨bo, 0, none⟩), .pointer (some ⟨bs, 0, none⟩)]] w R := by
  apply C_RowsSound
  unfold F_RowsSound
  have hgd := h.geo.d
  have hgc := h.geo.c
  refine alc_fresh fun w1 hb1 k1 z1 => ?_
  refine LdV_has (v := .int .i64 q.g.c) hb1 rfl (OpI_int.2 ?_)
  have hbo1 := k1.has hb (by simp)
  have hbne : w.heap.size ≠ bo := by have := hb.lt; omega
  have hSo : ∀ i, SFoot q i → ¬ i = bo := fun i hi e => by rw [e] at hi; exact h.typ hb (by decide) (by decide) (by decide) hi
  refine LoopC_of (σ := Int × Unit) (fun st' w' => ∃ (i : Nat) (g1 : Bool), st'.1 = (i : Int) ∧ i ≤ q.g.c.toNat ∧ (0 < i → s.pw.on = true) ∧ (g1 = true ↔ g0 = true ∧ ∀ off : Int, 0 ≤ off ∧ off < (i : Int) → RowSound q.g s st off) ∧ Has w' bo (.cells #[.bool g1] 4 (0, 0)) ∧ Keep (fun k => k = bo) w1 w') (fun st' _ => (q.g.c - st'.1).toNat)
    ⟨0, g0, rfl, by omega, fun h => absurd h (by omega), ⟨fun e => ⟨e, fun off ho => by omega⟩, fun e => e.1⟩, hbo1, Keep.refl _ _⟩ ?_
  rintro _ ⟨i, u⟩ w2 ⟨i', g1, hi, hil, hon, hg1, hbo2, k2⟩
  simp only at hi ⊢
  subst hi
  have kw : Keep (fun k => k = bo) w w2 := (k1.mono fun _ h => h.elim).trans k2
  have h2 := h.keep kw hSo
  have hs2 : Has w2 bs (.cells (setV q.g p l c) 29 (0, 0)) := kw.has hs (hs.ne hb (by simp only [ne_eq, Obj.cells.injEq]; intro e; exact absurd e.2.1 (by decide)))
  have hsl2 : SlL dLay w2 p l (q.bks.map Prod.fst) := hsl.keep kw fun b o hb e => hpo b o hb e
  have hb2 := k2.has hb1 hbne
  refine Cb_of (fun hc => ?_) (fun hc => ?_)
  · have hc : (i' : Int) < q.g.c := by simpa using hc
    have ek : IntKind.wrap .i64 ((i' : Int) + 1) = ((i' + 1 : Nat) : Int) := by rw [wrapI (by omega) (by omega)]; omega
    have hof : 0 ≤ (i' : Int) ∧ (i' : Int) < q.g.c := by omega
    have step : ∀ (g2 : Bool), (g2 = true ↔ g1 = true ∧ RowSound q.g s st (i' : Int)) → (g2 = true ↔ g0 = true ∧ ∀ off : Int, 0 ≤ off ∧ off < ((i' + 1 : Nat) : Int) → RowSound q.g s st off) := by
      intro g2 h2
      rw [h2, hg1]
      constructor
      · rintro ⟨⟨a1, a2⟩, a3⟩
        refine ⟨a1, fun off ho => ?_⟩
        by_cases e : off = (i' : Int)
        · rw [e]; exact a3
        · exact a2 off (by omega)
      · rintro ⟨a1, a2⟩
        exact ⟨⟨a1, fun off ho => a2 off (by omega)⟩, a2 _ (by omega)⟩
    refine LdA_all hb2 rfl ?_
    refine sc_look h2 hsl2 hlc hok hst hof (fun hp w3 k3 => ?_) (fun hp hl w3 k3 => ?_) fun hp hl pp cp pc cc pw lw cw w3 o1 o2 o3 k3 => ?_
    · refine T2_mk.2 (OpA_agg.2 ⟨rfl, OpI_int.2 ?_⟩)
      refine Sound1_off fun w4 k4 => OpI_int.2 ((Cb_true (q := _)).2 (Ret_nil.2 (hOff hp w4 ?_)))
      exact kw.trans ((k3.trans k4).mono fun _ h => h.elim)
    · refine T2_mk.2 (OpA_agg.2 ⟨rfl, OpI_int.2 ?_⟩)
      have hbo3 := k3.has hbo2 (by simp)
      refine Sound1_ok (h2.keep0 k3) (hsl2.keepB k3 (by simp)) (base := 0) hpo (by decide) hbo3 (k3.has hs2 (by simp)) (ps := []) OwnL.nil (by simp) (by omega) fun w4 hb4 k4 => OpI_int.2 ((Cb_false (p := _)).2 ?_)
      refine ⟨_, by show (q.g.c - IntKind.wrap .i64 ((i' : Int) + 1)).toNat < (q.g.c - (i' : Int)).toNat; rw [ek]; omega, ⟨i' + 1, _, ek, by omega, fun _ => hp, step _ ?_, hb4, (k2.trans (k3.mono fun _ h => h.elim)).trans k4⟩, rfl⟩
      constructor
      · intro e
        simp at e
      · rintro ⟨_, a, _⟩
        exact absurd a hl
    · refine T2_mk.2 (OpA_agg.2 ⟨rfl, OpI_int.2 ?_⟩)
      have hbo3 := k3.has hbo2 (by simp)
      have hlw := o3.length
      refine Sound1_ok (h2.keep0 k3) (hsl2.keepB k3 (by simp)) hpo (by decide) hbo3 (k3.has hs2 (by simp)) o1 (fun x hx => rowP_in h.geo hst hof hx) (by omega) fun w4 hb4 k4 => OpI_int.2 ((Cb_false (p := _)).2 ?_)
      refine ⟨_, by show (q.g.c - IntKind.wrap .i64 ((i' : Int) + 1)).toNat < (q.g.c - (i' : Int)).toNat; rw [ek]; omega, ⟨i' + 1, _, ek, by omega, fun _ => hp, step _ ?_, hb4, (k2.trans (k3.mono fun _ h => h.elim)).trans k4⟩, rfl⟩
      have hw0 : lw = 0 ↔ wrongS q.g s st (i' : Int) = [] := by
        rw [hlw]
        exact List.length_eq_zero_iff
      unfold RowSound
      simp only [Bool.and_eq_true, beq_iff_eq]
      rw [hw0]
      constructor
      · rintro ⟨⟨⟨a1, a2⟩, _⟩, a4⟩
        exact ⟨a1, hl, a2, a4⟩
      · rintro ⟨a1, _, a2, a4⟩
        exact ⟨⟨⟨a1, a2⟩, trivial⟩, a4⟩
  · have hc : ¬ (i' : Int) < q.g.c := by simpa using hc
    refine Ret_nil.2 (hK (hon (by omega)) g1 w2 ?_ hbo2 kw)
    rw [hg1, show (i' : Int) = q.g.c by omega]
theorem sc_Sound (h : SetAt w q s) {p : Option Addr} {l c : Nat} (hsl : SlL dLay w p l (q.bks.map Prod.fst)) (hlc : l ≤ c) (hok : ∀ D ∈ s.ds, DskOk D)
    (hOff : s.pw.on = false → ∀ w', Keep (fun _ => False) w w' → R (.tuple #[.bool false, .int .i64 4]) w')
    (hK : s.pw.on = true → ∀ (g1 : Bool) w', (g1 = true ↔ SetSound q.g s) → Keep (fun _ => False) w w' → R (.tuple #[.bool g1, .int .i64 0]) w') :
    CallV Try.prog 39 #[.agg (setV q.g p l c)] w R := by
  apply C_scrub_Sound
  unfold F_scrub_Sound
  have hgs := h.geo.s
  refine alc_fresh fun w1 hb1 k1 z1 => ?_
  refine LdA_all hb1 rfl ?_
  refine st_Check (h.keep0 k1) (hsl.keepB k1 (by simp)) hlc fun w2 k2 => ?_
  refine OpI_int.2 ((Cb_false (p := _)).2 ?_)
  have k02 := k1.trans k2
  refine alc_fresh fun w3 hb3 k3 z3 => ?_
  have k03 := k02.trans k3
  rw [show (zc Try.prog 4) = #[.bool false] by kernel_rfl] at hb3
  refine StV_of hb3 (by show 0 < 1; decide) rfl ?_
  have hbo := hb3.upd_same (.cells #[.bool true] 4)
  have hbo : Has (w3.upd w2.heap.size (.cells #[.bool true] 4)) w2.heap.size (.cells #[.bool true] 4 (0, 0)) := hbo
  have hz : ((#[.bool false] : Array Value).setIfInBounds 0 (.bool true)) = #[.bool true] := rfl
  rw [hz]
  have ku := Keep.one w3 w2.heap.size (.cells #[.bool true] 4)
  have z12 := k02.size
  have k04 : Keep (fun _ => False) w _ := k03.trans' ku fun i hi e => by omega
  have hb14 := ku.has ((k2.trans k3).has hb1 (by simp)) (by have := k2.size; omega)
  generalize w3.upd w2.heap.size (.cells #[.bool true] 4) = w4 at *
  refine LdV_has (v := .int .i64 q.g.s) hb14 rfl (OpI_int.2 ?_)
  have h4 := h.keep0 k04
  have hpo : ∀ b o, p = some ⟨b, o, none⟩ → b ≠ w2.heap.size := fun b o hb e => by
    subst hb
    have := SlL.blk_lt hsl (by have h1 := hsl.1; rw [List.length_map, h.len] at h1; have := h.num; have := h.geo.d; omega)
    omega
  have hsl4 : SlL dLay w4 p l (q.bks.map Prod.fst) := hsl.keepB k04 (by simp)
  have hSo : ∀ i, SFoot q i → ¬ i = w2.heap.size := fun i hi e => by rw [e] at hi; exact h4.typ hbo (by decide) (by decide) (by decide) hi
  refine LoopC_of (σ := Int × Unit) (fun st' w' => ∃ (i : Nat) (g1 : Bool), st'.1 = (i : Int) ∧ i ≤ q.g.s.toNat ∧ (0 < i → s.pw.on = true) ∧ (g1 = true ↔ ∀ st off : Int, 0 ≤ st ∧ st < (i : Int) → 0 ≤ off ∧ off < q.g.c → RowSound q.g s st off) ∧ Has w' w2.heap.size (.cells #[.bool g1] 4 (0, 0)) ∧ Keep (fun k => k = w2.heap.size) w4 w') (fun st' _ => (q.g.s - st'.1).toNat)
    ⟨0, true, rfl, by omega, fun h => absurd h (by omega), ⟨fun e st off hs ho => by omega, fun e => rfl⟩, hbo, Keep.refl _ _⟩ ?_
  rintro _ ⟨i, u⟩ w5 ⟨i', g1, hi, hil, hon, hg1, hbo5, k5⟩
  simp only at hi ⊢
  subst hi
  have kw5 : Keep (fun _ => False) w w5 := k04.trans' k5 fun i hi e => by omega
  refine Cb_of (fun hc => ?_) (fun hc => ?_)
  · have hc : (i' : Int) < q.g.s := by simpa using hc
    have ek : IntKind.wrap .i64 ((i' : Int) + 1) = ((i' + 1 : Nat) : Int) := by rw [wrapI (by omega) (by omega)]; omega
    have hb15 := k5.has hb14 (by have := hb1.lt; have := k2.size; omega)
    refine LdA_all hb15 rfl ?_
    have h5 := h.keep0 kw5
    have hsl5 : SlL dLay w5 p l (q.bks.map Prod.fst) := hsl.keepB kw5 (by simp)
    refine sc_rowsS h5 hsl5 hlc hok hpo (by omega) hbo5 hb15 (fun hp w6 k6 => OpI_int.2 ((Cb_true (q := _)).2 (Ret_nil.2 (hOff hp w6 ?_)))) fun hp g2 w6 hg2 hb6 k6 => OpI_int.2 ((Cb_false (p := _)).2 ?_)
    · exact kw5.trans' k6 fun i hi e => by omega
    · refine ⟨_, by show (q.g.s - IntKind.wrap .i64 ((i' : Int) + 1)).toNat < (q.g.s - (i' : Int)).toNat; rw [ek]; omega, ⟨i' + 1, g2, ek, by omega, fun _ => hp, ?_, hb6, k5.trans k6⟩, rfl⟩
      rw [hg2, hg1]
      constructor
      · rintro ⟨a1, a2⟩ st off hs ho
        by_cases e : st = (i' : Int)
        · rw [e]; exact a2 off ho
        · exact a1 st off (by omega) ho
      · intro a
        exact ⟨fun st off hs ho => a st off (by omega) ho, fun off ho => a _ off (by omega) ho⟩
  · have hc : ¬ (i' : Int) < q.g.s := by simpa using hc
    refine LdV_has (v := .bool g1) hbo5 rfl (OpB_bool.2 (Ret_nil.2 (hK (hon (by omega)) g1 w5 ?_ kw5)))
    rw [hg1, show (i' : Int) = q.g.s by omega]
    exact Iff.rfl
end calls
end Go.Proofs

/-
  A DISK IS REBUILT: what scrub.Rebuild answers; the walks.
-/
namespace Go.Proofs
open Go Go.Ev
set_option linter.unusedSimpArgs false
set_option linter.unusedVariables false
set_option maxRecDepth 100000

/-- the column that a disk has in a stripe -/
def colP (g : Geo) (i st : Int) : Int := (i - firstP g st) % g.d
theorem colP_ok {g : Geo} (hg : GeoOk g) {i : Int} (hi : 0 ≤ i ∧ i < g.d) (st off : Int) : (0 ≤ colP g i st ∧ colP g i st < g.d) ∧ (plcP g st off (colP g i st)).dk = i := by
  have hd := hg.d
  have h0 := Int.emod_nonneg (i - firstP g st) (show g.d ≠ 0 by omega)
  have h1 := Int.emod_lt_of_pos (i - firstP g st) (show 0 < g.d by omega)
  refine ⟨⟨h0, h1⟩, ?_⟩
  show (firstP g st + (i - firstP g st) % g.d) % g.d = i
  rw [Int.add_emod_emod, show firstP g st + (i - firstP g st) = i by omega]
  exact Int.emod_eq_of_lt hi.1 hi.2
theorem at_split {g : Geo} (hg : GeoOk g) {m : Int} (hm : 0 ≤ m ∧ m < g.c * g.s) : (0 ≤ m / g.c ∧ m / g.c < g.s) ∧ (0 ≤ m % g.c ∧ m % g.c < g.c) ∧ m / g.c * g.c + m % g.c = m := by
  have hc := hg.c
  refine ⟨⟨Int.ediv_nonneg hm.1 (by omega), Int.ediv_lt_of_lt_mul (by omega) (by rw [Int.mul_comm]; exact hm.2)⟩, ⟨Int.emod_nonneg _ (by omega), Int.emod_lt_of_pos _ (by omega)⟩, ?_⟩
  rw [Int.mul_comm]; exact Int.mul_ediv_add_emod _ _
/-- what is written where a disk's sector is had again -/
def rebP (g : Geo) (s : SS) (i m : Int) : PutS := putK g (m / g.c) (m % g.c) (rowR (colsS g s (m / g.c) (m % g.c))) (colP g i (m / g.c))
def rebL (g : Geo) (ep i : Int) : Nat → Int → SS → Int × Int × SS
  | 0, m, s => (m, 0, s)
  | n + 1, m, s => if s.pw.on = false then (m, 4, s) else if (viewS s i m).isSome = true then rebL g ep i n (m + 1) s
    else if lostN (colsS g s (m / g.c) (m % g.c)) ≤ 2 then
      if (applyS g s [rebP g s i m] ep).1 ≠ 0 then (m, (applyS g s [rebP g s i m] ep).1, (applyS g s [rebP g s i m] ep).2) else rebL g ep i n (m + 1) (applyS g s [rebP g s i m] ep).2
    else (m, 8, s)
theorem rebL_succ (g : Geo) (ep i : Int) (n : Nat) (m : Int) (s : SS) : rebL g ep i (n + 1) m s = if s.pw.on = false then (m, 4, s) else if (viewS s i m).isSome = true then rebL g ep i n (m + 1) s
    else if lostN (colsS g s (m / g.c) (m % g.c)) ≤ 2 then
      if (applyS g s [rebP g s i m] ep).1 ≠ 0 then (m, (applyS g s [rebP g s i m] ep).1, (applyS g s [rebP g s i m] ep).2) else rebL g ep i n (m + 1) (applyS g s [rebP g s i m] ep).2
    else (m, 8, s) := rfl
def rebS (g : Geo) (s : SS) (i m n ep : Int) : Int × Int × SS := rebL g ep i ((if n < g.c * g.s - m then m + n else g.c * g.s) - m).toNat m s
/-- a cell that can be read is seen -/
theorem read_some {pw : Pow} {D : Dsk} {a : Int} (ha : 0 ≤ a ∧ a < (D.secs.length : Int)) (hon : pw.on = true) : ((readD pw D a).2 = 0 ∧ (readD pw D a).1.sum = sumS a (readD pw D a).1.data) ↔ (cellD D a).isSome = true := by
  unfold readD cellD
  rw [if_neg (show ¬ ¬ (0 ≤ a ∧ a < (D.secs.length : Int)) by simpa using ha), if_neg (by rw [hon]; decide)]
  by_cases hd : D.dead = true
  · rw [if_pos hd, if_pos hd]; simp
  · rw [if_neg hd, if_neg hd]
    by_cases hg : (D.secs.getD a.toNat sct0).good = false
    · rw [if_pos hg, if_pos hg]; simp
    · rw [if_neg hg, if_neg hg]
      by_cases hs : (D.secs.getD a.toNat sct0).cel.sum = sumS a (D.secs.getD a.toNat sct0).cel.data
      · rw [if_pos hs]; exact ⟨fun _ => rfl, fun _ => ⟨rfl, hs⟩⟩
      · rw [if_neg hs]; exact ⟨fun h => absurd h.2 hs, fun h => by cases h⟩
theorem read_err4 {pw : Pow} {D : Dsk} {a : Int} (ha : 0 ≤ a ∧ a < (D.secs.length : Int)) : (readD pw D a).2 = 4 ↔ pw.on = false := by
  unfold readD
  rw [if_neg (show ¬ ¬ (0 ≤ a ∧ a < (D.secs.length : Int)) by simpa using ha)]
  by_cases hp : pw.on = false
  · rw [if_pos hp]; simp [hp]
  · rw [if_neg hp]
    by_cases hd : D.dead = true
    · rw [if_pos hd]; simp [hp]
    · rw [if_neg hd]
      by_cases hg : (D.secs.getD a.toNat sct0).good = false
      · rw [if_pos hg]; simp [hp]
      · rw [if_neg hg]; simp [hp]
section calls
variable {w : World} {q : SB} {s : SS} {g : Geo} {R : Value → World → Prop}
theorem l_Back (hg : GeoOk g) {i m : Int} (hi : 0 ≤ i ∧ i < g.d) (hm : 0 ≤ m ∧ m < g.c * g.s) (hK : ∀ x w', Keep (fun _ => False) w w' → R (.tuple #[.int .i64 x, .int .i64 (colP g i (m / g.c)), .int .i64 0]) w') :
    CallV Try.prog 74 #[.agg (geoV g), .agg (plcV ⟨i, m⟩)] w R := by
  apply C_layout_Back
  unfold F_layout_Back
  have hd := hg.d
  have hc := hg.c
  have hsz := hg.size
  have hss := hg.s
  obtain ⟨⟨st0, st1⟩, _, _⟩ := at_split hg hm
  obtain ⟨f0, f1⟩ := firstP_lt hg (m / g.c)
  refine alc_fresh fun w1 hb1 k1 z1 => ?_
  refine alc_fresh fun w2 hb2 k2 z2 => ?_
  have hg2 := k2.has hb1 (by simp)
  refine LdA_all hg2 rfl ?_
  refine l_Size hg fun w3 k3 => ?_
  have hg3 := k3.has hg2 (by simp)
  have hp3 := k3.has hb2 (by simp)
  have k03 := (k1.trans k2).trans k3
  refine T2_mk.2 (OpI_int.2 (OpI_int.2 ((Cb_false (p := _)).2 ?_)))
  refine LdV_has (v := .int .i64 i) hp3 rfl (OpI_int.2 ?_)
  rw [decide_eq_false (show ¬ i < 0 by omega)]
  refine (Cb_false (p := _)).2 ?_
  refine LdV_has (v := .int .i64 i) hp3 rfl (OpI_int.2 ?_)
  refine LdV_has (v := .int .i64 g.d) hg3 rfl (OpI_int.2 ?_)
  rw [decide_eq_false (show ¬ i ≥ g.d by omega)]
  refine (Cb_false (p := _)).2 ?_
  refine LdV_has (v := .int .i64 m) hp3 rfl (OpI_int.2 ?_)
  rw [decide_eq_false (show ¬ m < 0 by omega)]
  refine (Cb_false (p := _)).2 ?_
  refine LdV_has (v := .int .i64 m) hp3 rfl (OpI_int.2 ?_)
  rw [decide_eq_false (show ¬ m ≥ g.c * g.s by omega)]
  refine (Cb_false (p := _)).2 ?_
  refine LdV_has (v := .int .i64 m) hp3 rfl (OpI_int.2 ?_)
  refine LdV_has (v := .int .i64 g.c) hg3 rfl (OpI_int.2 ⟨by omega, ?_⟩)
  refine LdV_has (v := .int .i64 g.d) hg3 rfl (OpI_int.2 ?_)
  rw [Int.tdiv_eq_ediv_of_nonneg hm.1, wrapI (x := m / g.c) (by omega) (by omega), wrapI (x := g.d - 2) (by omega) (by omega)]
  intro d1 d2
  have kd := (k03.dr d1).dr d2
  have hgd := (hg3.dr d1).dr d2
  have hpd := (hp3.dr d1).dr d2
  generalize (w3.dr d1).dr d2 = w4 at *
  refine ⟨fun w' => Has w' w.heap.size (.cells (geoV g) 25 (0, 0)) ∧ Has w' w1.heap.size (.cells (plcV ⟨i, m⟩) 53 (0, 0)), ⟨hgd, hpd⟩, ?_⟩
  refine LdV_of (v := .int .i64 i) (fun w' hw => ⟨_, _, _, hw.2, rfl⟩) (OpI_int.2 ?_)
  refine LdA_all hgd rfl ?_
  refine LdV_of (v := .int .i64 g.d) (fun w' hw => ⟨_, _, _, hw.1, rfl⟩) (OpI_int.2 ?_)
  refine LdV_of (v := .int .i64 g.d) (fun w' hw => ⟨_, _, _, hw.1, rfl⟩) (OpI_int.2 ?_)
  refine l_first hg st0 fun w5 k5 => OpI_int.2 ⟨⟨k5.has hgd (by simp), k5.has hpd (by simp)⟩, ⟨by omega, ?_⟩⟩
  have k05 := kd.trans k5
  rw [wrapI (x := i - firstP g (m / g.c)) (by omega) (by omega), wrapI (x := i - firstP g (m / g.c) + g.d) (by omega) (by omega), Int.tmod_eq_emod_of_nonneg (by omega), Int.add_emod_right]
  show Cb (decide (colP g i (m / g.c) ≥ g.d - 2)) (Ret [] (R (.tuple #[.int .i64 (-1), .int .i64 (colP g i (m / g.c)), .int .i64 0]) w5)) _
  refine Cb_of (fun _ => Ret_nil.2 (hK _ _ k05)) (fun _ => ?_)
  have hg5 := k5.has hgd (by simp)
  have hp5 := k5.has hpd (by simp)
  refine LdV_has (v := .int .i64 g.c) hg5 rfl (OpI_int.2 ?_)
  refine LdV_has (v := .int .i64 m) hp5 rfl (OpI_int.2 ?_)
  refine LdV_has (v := .int .i64 g.c) hg5 rfl (OpI_int.2 ⟨by omega, fun d => Ret_nil.2 ?_⟩)
  exact hK _ _ (k05.dr d)
theorem sc_Rebuild (h : SetAt w q s) {p : Option Addr} {l c : Nat} (hsl : SlL dLay w p l (q.bks.map Prod.fst)) (hlc : l ≤ c) (hpf : ∀ b o, p = some ⟨b, o, none⟩ → ¬ SFoot q b) (hok : ∀ D ∈ s.ds, DskOk D) {i m n ep : Int} (hm' : m ≤ 9223372036854775807) (hn' : -9223372036854775808 ≤ n)
    (hBad : ¬ ((0 ≤ i ∧ i < q.g.d) ∧ (0 ≤ m ∧ m ≤ q.g.c * q.g.s) ∧ 0 ≤ n) → ∀ w', Keep (fun _ => False) w w' → R (.tuple #[.int .i64 0, .int .i64 2]) w')
    (hDead : deadS s i = true → ∀ w', Keep (fun _ => False) w w' → R (.tuple #[.int .i64 0, .int .i64 5]) w')
    (hK : (0 ≤ i ∧ i < q.g.d) → (0 ≤ m ∧ m ≤ q.g.c * q.g.s) → 0 ≤ n → deadS s i = false → ∀ w', SetAt w' q (rebS q.g s i m n ep).2.2 → Keep (SFoot q) w w' → R (.tuple #[.int .i64 (rebS q.g s i m n ep).1, .int .i64 (rebS q.g s i m n ep).2.1]) w') :
    CallV Try.prog 41 #[.agg (setV q.g p l c), .int .i64 i, .int .i64 m, .int .i64 n, .int .u32 ep] w R := by
  apply C_scrub_Rebuild
  unfold F_scrub_Rebuild
  have hgd := h.geo.d
  have hgc := h.geo.c
  have hgs := h.geo.s
  have hsz := h.geo.size
  refine alc_fresh fun w1 hb1 k1 z1 => ?_
  refine LdA_all hb1 rfl ?_
  refine st_Check (h.keep0 k1) (hsl.keepB k1 (by simp)) hlc fun w2 k2 => ?_
  refine OpI_int.2 ((Cb_false (p := _)).2 ?_)
  refine LdA_has (cs := geoV q.g) (k2.has hb1 (by simp)) (by show 0 + 3 ≤ 4; decide) rfl ?_
  refine l_Size h.geo fun w3 k3 => ?_
  refine T2_mk.2 (OpI_int.2 (OpI_int.2 ?_))
  have k03 := (k1.trans k2).trans k3
  have hb3 := (k2.trans k3).has hb1 (by simp)
  refine ⟨fun st' w' => (st'.1 = true ↔ ¬ ((0 ≤ i ∧ i < q.g.d) ∧ (0 ≤ m ∧ m ≤ q.g.c * q.g.s) ∧ 0 ≤ n)) ∧ w3 = w', ?_, ?_⟩
  · refine Cb_of (fun hc => ?_) (fun hc => ?_)
    · have hc : i < 0 := by simpa using hc
      refine ⟨rfl, rfl, rfl, rfl, rfl, rfl, rfl, ⟨fun _ h => by omega, fun _ => rfl⟩, rfl⟩
    · have hc : ¬ i < 0 := by simpa using hc
      refine LdV_has (v := .int .i64 q.g.d) hb3 rfl (OpI_int.2 ⟨rfl, rfl, rfl, rfl, rfl, rfl, rfl, ?_, rfl⟩)
      by_cases h1 : i ≥ q.g.d <;> by_cases h2 : m < 0 <;> by_cases h3 : m > q.g.c * q.g.s <;> by_cases h4 : n < 0 <;> simp [h1, h2, h3, h4] <;> omega
  · rintro _ ⟨bad, u⟩ w' ⟨hbad, rfl⟩
    simp only at hbad ⊢
    refine Cb_of (fun e => Ret_nil.2 (hBad (hbad.1 e) _ k03)) (fun e => ?_)
    have hargs : (0 ≤ i ∧ i < q.g.d) ∧ (0 ≤ m ∧ m ≤ q.g.c * q.g.s) ∧ 0 ≤ n := by
      refine Classical.byContradiction fun hne => ?_
      rw [hbad.2 hne] at e; cases e
    obtain ⟨hi, hm, hn⟩ := hargs
    refine LdV_has (v := .slice p l c) hb3 rfl (OpS_slice.2 ?_)
    have h3 := h.keep0 k03
    obtain ⟨bd, rd, D, hbk, hD, hda, hdl⟩ := h3.get (i := i.toNat) (by have := h3.num; omega)
    have hDg : s.ds.getD i.toNat dsk0 = D := by rw [List.getD_eq_getElem?_getD, hD]; rfl
    refine (hsl.keepB k03 (by simp)).ld0 (i := i) (n := 1) (x := bd) (v := .pointer (some ⟨bd, 0, none⟩)) rfl hi.1 (by rw [List.getElem?_map, hbk]; rfl) rfl (OpN_some.2 ?_)
    refine d_Alive hda (OpB_bool.2 ?_)
    refine Cb_of (fun e2 => Ret_nil.2 (hDead (by unfold deadS; rw [hDg]; simpa using e2) _ k03)) (fun e2 => ?_)
    have hK := hK hi hm hn (by unfold deadS; rw [hDg]; simpa using e2)
    have hend : (if n < q.g.c * q.g.s - m then m + n else q.g.c * q.g.s) ≤ q.g.c * q.g.s ∧ m ≤ (if n < q.g.c * q.g.s - m then m + n else q.g.c * q.g.s) := by split <;> omega
    unfold rebS at hK
    refine ⟨fun st' w' => st'.1 = (if n < q.g.c * q.g.s - m then m + n else q.g.c * q.g.s) ∧ w3 = w', ?_, ?_⟩
    · rw [wrapI (x := q.g.c * q.g.s - m) (by omega) (by omega)]
      refine Cb_of (fun e3 => ⟨?_, rfl⟩) (fun e3 => ⟨?_, rfl⟩)
      · have e3 : n < q.g.c * q.g.s - m := by simpa using e3
        rw [if_pos e3]
        exact wrapI (by omega) (by omega)
      · have e3 : ¬ n < q.g.c * q.g.s - m := by simpa using e3
        rw [if_neg e3]
    · rintro _ ⟨E, u⟩ w' ⟨hE, rfl⟩
      simp only at hE ⊢
      rw [← hE] at hend hK
      refine LoopC_of (σ := Int × Unit) (fun st' w' => ∃ s' : SS, m ≤ st'.1 ∧ st'.1 ≤ E ∧ (∀ D ∈ s'.ds, DskOk D) ∧ SetAt w' q s' ∧ rebL q.g ep i (E - st'.1).toNat st'.1 s' = rebL q.g ep i (E - m).toNat m s ∧ Keep (SFoot q) w3 w') (fun st' _ => (E - st'.1).toNat)
        ⟨s, Int.le_refl _, by omega, hok, h3, rfl, Keep.refl _ _⟩ ?_
      rintro _ ⟨mj, u⟩ w4 ⟨s', hml, hmE, hok', h4, hm2, k4⟩
      simp only at hml hmE hm2 ⊢
      have kw : Keep (SFoot q) w w4 := (k03.mono fun _ h => h.elim).trans k4
      have hb4 : Has w4 w.heap.size (.cells (setV q.g p l c) 29 (0, 0)) := k4.has hb3 (h3.typ hb3 (by decide) (by decide) (by decide))
      have hsl4 : SlL dLay w4 p l (q.bks.map Prod.fst) := (hsl.keepB k03 (by simp)).keep k4 hpf
      refine Cb_of (fun hc => ?_) (fun hc => ?_)
      · have hc : mj < E := by simpa using hc
        have ek : IntKind.wrap .i64 (mj + 1) = mj + 1 := wrapI (by omega) (by omega)
        have hmr : 0 ≤ mj ∧ mj < q.g.c * q.g.s := by omega
        obtain ⟨st1, of1, sp1⟩ := at_split h.geo hmr
        have hnn : (E - mj).toNat = (E - (mj + 1)).toNat + 1 := by omega
        rw [hnn, rebL_succ] at hm2
        have kend : ∀ {w' : World}, Keep (fun _ => False) w4 w' → Keep (SFoot q) w w' := fun k => kw.trans (k.mono fun _ h => h.elim)
        refine LdV_has (v := .slice p l c) hb4 rfl (OpS_slice.2 ?_)
        obtain ⟨bd, rd, D, hbk, hD, hda, hdl⟩ := h4.get (i := i.toNat) (by have := h4.num; omega)
        have hDg : s'.ds.getD i.toNat dsk0 = D := by rw [List.getD_eq_getElem?_getD, hD]; rfl
        have hDok := hok' D (List.mem_of_getElem? hD)
        have hmD : 0 ≤ mj ∧ mj < (D.secs.length : Int) := by rw [hdl]; exact hmr
        refine hsl4.ld0 (i := i) (n := 1) (x := bd) (v := .pointer (some ⟨bd, 0, none⟩)) rfl hi.1 (by rw [List.getElem?_map, hbk]; rfl) rfl (OpN_some.2 ?_)
        refine d_Read hda h4.main fun w5 k5 => T2_mk.2 (OpA_agg.2 ⟨rfl, OpI_int.2 ?_⟩)
        have hcok := readD_ok (pw := s'.pw) (at_ := mj) hDok
        have h4e := read_err4 (pw := s'.pw) hmD
        refine copy_of (by rw [zc_cel]; rfl) rfl (one_celV _) fun w6 hb6 k6 z6 => ?_
        have k46 := k5.trans k6
        refine Cb_of (fun e3 => ?_) (fun e3 => ?_)
        · have e3 : (readD s'.pw D mj).2 = 4 := by simpa using e3
          rw [if_pos (h4e.1 e3)] at hm2
          rw [← hm2] at hK
          refine Ret_nil.2 ?_
          rw [e3]
          exact hK w6 (h4.keep0 k46) (kend k46)
        · have e3 : ¬ (readD s'.pw D mj).2 = 4 := by simpa using e3
          have hon : s'.pw.on = true := by
            cases hp : s'.pw.on with
            | true => rfl
            | false => exact absurd (h4e.2 hp) e3
          rw [if_neg (by rw [hon]; decide)] at hm2
          have hsome := read_some (pw := s'.pw) hmD hon
          refine ⟨fun st' w' => (st'.1 = (viewS s' i mj).isSome) ∧ Keep (fun _ => False) w6 w', ?_, ?_⟩
          · have hview : viewS s' i mj = cellD D mj := by unfold viewS; rw [hDg]
            rw [hview]
            refine Cb_of (fun e4 => ?_) (fun e4 => ?_)
            · have e4 : (readD s'.pw D mj).2 = 0 := by simpa using e4
              refine LdA_all hb6 rfl ?_
              refine s_Good hcok fun w7 k7 => OpB_bool.2 ⟨?_, k7⟩
              show decide ((readD s'.pw D mj).1.sum = sumS mj (readD s'.pw D mj).1.data) = (cellD D mj).isSome
              by_cases hq : (readD s'.pw D mj).1.sum = sumS mj (readD s'.pw D mj).1.data
              · rw [decide_eq_true hq, hsome.1 ⟨e4, hq⟩]
              · rw [decide_eq_false hq]
                cases hz : (cellD D mj).isSome with
                | false => rfl
                | true => exact absurd (hsome.2 hz).2 hq
            · have e4 : ¬ (readD s'.pw D mj).2 = 0 := by simpa using e4
              refine ⟨?_, Keep.refl _ _⟩
              show false = (cellD D mj).isSome
              cases hz : (cellD D mj).isSome with
              | false => rfl
              | true => exact absurd (hsome.2 hz).1 e4
          · rintro _ ⟨seen, u⟩ w7 ⟨hseen, k7⟩
            simp only at hseen ⊢
            have k47 := k46.trans k7
            refine Cb_of (fun e4 => ?_) (fun e4 => ?_)
            · rw [if_pos (by rw [← hseen]; exact e4)] at hm2
              exact ⟨_, by show (E - IntKind.wrap .i64 (mj + 1)).toNat < (E - mj).toNat; rw [ek]; omega, ⟨s', by rw [ek]; omega, by rw [ek]; omega, hok', h4.keep0 k47, by rw [ek]; exact hm2, k4.trans (k47.mono fun _ h => h.elim)⟩, rfl⟩
            · rw [if_neg (by rw [← hseen, e4]; decide)] at hm2
              intro d
              have k48 := k47.trans (Keep.drew (fun _ => False) w7 d)
              generalize w7.dr d = w8 at *
              have hb8 := k48.has hb4 (by simp)
              refine ⟨fun w' => Has w' w.heap.size (.cells (setV q.g p l c) 29 (0, 0)), hb8, ?_⟩
              refine LdA_all hb8 rfl ?_
              refine LdV_of (v := .int .i64 q.g.c) (fun w' hw => ⟨_, _, _, hw, rfl⟩) (OpI_int.2 ⟨by omega, ?_⟩)
              refine LdV_of (v := .int .i64 q.g.c) (fun w' hw => ⟨_, _, _, hw, rfl⟩) (OpI_int.2 ⟨by omega, ?_⟩)
              rw [Int.tdiv_eq_ediv_of_nonneg hmr.1, Int.tmod_eq_emod_of_nonneg hmr.1, wrapI (x := mj / q.g.c) (by omega) (by omega)]
              have h8 := h4.keep0 k48
              have hsl8 : SlL dLay w8 p l (q.bks.map Prod.fst) := hsl4.keepB k48 (by simp)
              refine st_Row h8 hsl8 hlc hok' st1 of1 (fun hp => absurd hp (by rw [hon]; decide)) (fun hp hl w9 k9 => ?_) fun hp hl p2 c2 lp ll lc w9 o9 on9 k9 => ?_
              · refine T3_mk.2 (OpS_slice.2 (OpS_slice.2 (OpI_int.2 ⟨k9.has hb8 (by simp), (Cb_true (q := _)).2 (Ret_nil.2 ?_)⟩)))
                rw [if_neg hl] at hm2
                rw [← hm2] at hK
                exact hK w9 (h8.keep0 k9) (kend (k48.trans k9))
              · have hb9 := k9.has hb8 (by simp)
                refine T3_mk.2 (OpS_slice.2 (OpS_slice.2 (OpI_int.2 ⟨hb9, (Cb_false (p := _)).2 ?_⟩)))
                rw [if_pos hl] at hm2
                refine LdA_has (cs := geoV q.g) hb9 (by show 0 + 3 ≤ 4; decide) rfl ?_
                refine DoQ_of (v := .agg (plcV ⟨i, mj⟩)) (fun _ => run_build _ _ _ _ (by kernel_rfl)) (OpA_agg.2 ⟨rfl, ?_⟩)
                refine l_Back h.geo hi hmr fun x w10 k10 => T3_mk.2 (OpI_int.2 (OpI_int.2 (OpI_int.2 ?_)))
                obtain ⟨⟨cp0, cp1⟩, cpd⟩ := colP_ok h.geo hi (mj / q.g.c) (mj % q.g.c)
                have hplc : plcP q.g (mj / q.g.c) (mj % q.g.c) (colP q.g i (mj / q.g.c)) = ⟨i, mj⟩ := by
                  have e2 : (plcP q.g (mj / q.g.c) (mj % q.g.c) (colP q.g i (mj / q.g.c))).at_ = mj := sp1
                  generalize plcP q.g (mj / q.g.c) (mj % q.g.c) (colP q.g i (mj / q.g.c)) = y at *
                  cases y
                  simp only at cpd e2
                  rw [cpd, e2]
                have hrl := o9.length
                obtain ⟨f, hf⟩ : ∃ f, (rowR (colsS q.g s' (mj / q.g.c) (mj % q.g.c)))[(colP q.g i (mj / q.g.c)).toNat]? = some f := ⟨_, List.getElem?_eq_getElem (by omega)⟩
                have hreb : rebP q.g s' i mj = ⟨⟨i, mj⟩, ⟨f, sumS mj f⟩⟩ := by
                  unfold rebP putK
                  rw [hplc, List.getD_eq_getElem?_getD, hf]; rfl
                have hfo : SecOk f := rowR_ok (colsS_ok (g := q.g) (st := mj / q.g.c) (off := mj % q.g.c) hok') f (List.mem_of_getElem? hf)
                intro d2
                have k411 := ((k48.trans k9).trans k10).trans (Keep.drew (fun _ => False) w10 d2)
                have hb11 := (k10.has hb9 (by simp)).dr d2
                have o11 : OwnL secLay (w10.dr d2) w8.heap.size 23 p2 q.g.d.toNat c2 (rowR (colsS q.g s' (mj / q.g.c) (mj % q.g.c))) := (o9.keep k10 (by simp)).keep (Keep.drew (fun _ => False) w10 d2) (by simp)
                generalize w10.dr d2 = w11 at *
                generalize hrow : rowR (colsS q.g s' (mj / q.g.c) (mj % q.g.c)) = row at *
                refine ⟨fun w' => Has w' w.heap.size (.cells (setV q.g p l c) 29 (0, 0)) ∧ SlL secLay w' p2 q.g.d.toNat row, ⟨hb11, o11.sl⟩, ?_⟩
                refine LdA_of (cs := setV q.g p l c) rfl (fun w' hw => ⟨_, _, _, hw.1, Nat.le_refl 4, rfl⟩) ?_
                refine ⟨.agg (plcV ⟨i, mj⟩), fun w' _ => run_build _ _ _ _ (by kernel_rfl), OpA_agg.2 ⟨rfl, ?_⟩⟩
                refine SlL.ldAS (S := fun w' => Has w' w.heap.size (.cells (setV q.g p l c) 29 (0, 0)) ∧ SlL secLay w' p2 q.g.d.toNat row) (w0 := w11) ⟨hb11, o11.sl⟩ (fun w' hw => hw.2) (i := colP q.g i (mj / q.g.c)) (x := f) (n := 16) rfl cp0 hf ?_
                have e16 : (secLay.row f).toArray = secV f := by show ((secV f).toList).toArray = secV f; simp
                rw [e16]
                have hS : ∀ {w' : World}, Keep (fun _ => False) w11 w' → Has w' w.heap.size (.cells (setV q.g p l c) 29 (0, 0)) ∧ SlL secLay w' p2 q.g.d.toNat row := fun k => ⟨k.has hb11 (by simp), (o11.keep k (by simp)).sl⟩
                refine s_Seal fun w12 k12 => OpA_agg.2 ⟨rfl, hS k12, ?_⟩
                refine ⟨.agg (putSV ⟨⟨i, mj⟩, ⟨f, sumS mj f⟩⟩), fun w' _ => bld_put ⟨⟨i, mj⟩, ⟨f, sumS mj f⟩⟩ w', OpA_agg.2 ⟨rfl, ?_⟩⟩
                refine ⟨_, _, bsl_pu1 _ w12, OpS_slice.2 ?_⟩
                have k13 := Keep.new (fun _ => False) w12 (.cells (putSV ⟨⟨i, mj⟩, ⟨f, sumS mj f⟩⟩) 110)
                have hb13 := Has.new w12 (.cells (putSV ⟨⟨i, mj⟩, ⟨f, sumS mj f⟩⟩) 110)
                have o13 : OwnL puLay (w12.alloc (.cells (putSV ⟨⟨i, mj⟩, ⟨f, sumS mj f⟩⟩) 110)) w12.heap.size 110 (some ⟨w12.heap.size, 0, none⟩) 1 1 [⟨⟨i, mj⟩, ⟨f, sumS mj f⟩⟩] := OwnL.new (L := puLay) (xs := [⟨⟨i, mj⟩, ⟨f, sumS mj f⟩⟩]) (by simp [maxLen]) (by rw [puLay.rows_one']; rfl)
                generalize w12.alloc (.cells (putSV ⟨⟨i, mj⟩, ⟨f, sumS mj f⟩⟩) 110) = w13 at *
                have k1113 := k12.trans k13
                have k413 := k411.trans k1113
                have h13 := h4.keep0 k413
                refine ⟨hS k1113, ?_⟩
                rw [← hreb] at o13
                refine st_Apply h13 (hsl4.keepB k413 (by simp)) hlc hpf o13.sl (by omega) (fun b o hb hi => by cases hb; exact h13.typ hb13 (by decide) (by decide) (by decide) hi) fun w14 hS14 k14 => ?_
                have hb14 := k14.has (hS k1113).1 (h13.typ (hS k1113).1 (by decide) (by decide) (by decide))
                have o11' := o11.keep k1113 (by simp)
                refine OpI_int.2 ⟨⟨hb14, (o11'.keep k14 fun b hb hi => ?_).sl⟩, ?_⟩
                · rcases Own.cases o11' with ⟨h0, _⟩ | ⟨b', cur, h0, _, hg', _⟩
                  · rw [h0] at hb; cases hb
                  · rw [h0] at hb; cases hb
                    exact h13.typ hg' (by decide) (by decide) (by decide) hi
                · have k414 : Keep (SFoot q) w4 w14 := (k413.mono fun _ h => h.elim).trans k14
                  refine Cb_of (fun e5 => ?_) (fun e5 => ?_)
                  · have e5 : (applyS q.g s' [rebP q.g s' i mj] ep).1 ≠ 0 := by simpa using e5
                    rw [if_pos e5] at hm2
                    rw [← hm2] at hK
                    exact Ret_nil.2 (hK w14 hS14 (kw.trans k414))
                  · have e5 : (applyS q.g s' [rebP q.g s' i mj] ep).1 = 0 := by simpa using e5
                    rw [if_neg (fun h => h e5)] at hm2
                    refine ⟨_, by show (E - IntKind.wrap .i64 (mj + 1)).toNat < (E - mj).toNat; rw [ek]; omega, ⟨_, by rw [ek]; omega, by rw [ek]; omega, applyS_dok hok' (fun y hy => ?_), hS14, by rw [ek]; exact hm2, k4.trans k414⟩, rfl⟩
                    rw [List.mem_singleton.1 hy, hreb]
                    exact ⟨hfo, (sumS_ok _ _).1, (sumS_ok _ _).2⟩
      · have hc : mj = E := by
          have : ¬ mj < E := by simpa using hc
          omega
        subst hc
        rw [Int.sub_self] at hm2
        have hm2 : (mj, 0, s') = rebL q.g ep i (mj - m).toNat m s := hm2
        rw [← hm2] at hK
        exact Ret_nil.2 (hK w4 h4 kw)
end calls
end Go.Proofs
