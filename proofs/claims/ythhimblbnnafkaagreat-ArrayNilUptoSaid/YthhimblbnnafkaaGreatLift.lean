/-
  FROM A WALK TO A STATEMENT: a call that returns true and turns nothing that was there answers as a law's row says; and what the arguments are, as cells.
-/
import Derived.Test.YthhimblbnnafkaaGreatData
import Derived.Test.YthhimblbnnafkaaGreatRows
import Derived.WalkKit
import Derived.ProofKit
import Derived.OpenShut
import Derived.JoinedCond
import Derived.Carry
import Derived.Deep.Slices
namespace Go.Proofs
open Go Go.Ev Go.ChangeShapes Go.WideShapes Go.ChangeAt Go.RowKit
set_option linter.unusedVariables false
set_option linter.unusedSimpArgs false

section
variable {H : Type} {enc : TypeId × Value → H} {P : Program}
theorem trodAll_below (hl : laidOutB P = true) {W W' : World} (hb : Below W.heap.size W W') : ∀ (ts : List TypeId) (vs : List Value) (ds : List (DataW H)) (ps : List MemPlace), (∀ t ∈ ts, P.readableRec t = true ∧ t < P.types.size) →
    DataW.TrodAll enc P W 0 (fun _ => true) true ts vs ds ps → (∀ x ∈ ps, x.block < W.heap.size) → DataW.TrodAll enc P W' 0 (fun b => decide (b < W.heap.size)) true ts vs ds ps
  | [], [], [], ps, _, h, _ => h
  | t :: ts, v :: vs, d :: ds, ps, ht, h, hlt => by
    obtain ⟨p, q, h1, h2, rfl⟩ := h
    have := ht t (by simp)
    exact ⟨p, q, Below.trod hl this.1 this.2 h1 hb (fun x hx => hlt x (by simp [hx])), trodAll_below hl hb ts vs ds q (fun t' h' => ht t' (by simp [h'])) h2 (fun x hx => hlt x (by simp [hx])), rfl⟩
  | [], _ :: _, _, _, _, h, _ => h.elim
  | [], [], _ :: _, _, _, h, _ => h.elim
  | _ :: _, [], _, _, _, h, _ => h.elim
  | _ :: _, _ :: _, [], _, _, h, _ => h.elim

/-- a law's row, once its call returns true and leaves what was there -/
theorem post_below {f : Func} {s : ChangeSpec} {tb : TypeId} {W W' : World} {args : Array Value} {ds gs : List (DataW H)} {before : List MemPlace} (hW : DataW.Whole enc P f.params.toList s.vars false W args.toList ds gs before)
    (hl : laidOutB P = true) (hr : f.resultTypes = #[tb]) (ht : P.underlying tb = some .bool) (hv : s.vars = []) (hs : s.fn H ds = { results := [.lit (.bool true)], args := ds })
    (hp : ∀ t ∈ f.params.toList, P.readableRec t = true ∧ t < P.types.size) (hb : Below W.heap.size W W') : s.post enc P f false true false false W args (.bool true) W' := by
  have hW' := hW
  obtain ⟨p, q, hA, hV, rfl, hfz, hnd⟩ := hW
  rw [hv] at hV
  obtain ⟨rfl, rfl⟩ := trodVars_none hV
  refine ⟨ds, [], p ++ [], [], p, [], hW', ?_, ?_, ?_, World.keptBut_mono (fun x hx => hx) (hb.frame _), fun h => by cases h⟩
  · simp only [List.append_nil, hs, hr]
    exact trodAll_cons_mk (shut_bool ht _) trodAll_mk0
  · simp only [List.append_nil, hs]
    exact trodAll_below hl hb _ _ _ _ hp hA (fun x hx => hW'.lt x (by simp [hx]))
  · simp only [List.append_nil, hs, hv]
    exact rfl

/-! ### arguments as cells -/
theorem mapM_each {α β : Type} {f : α → Option β} : ∀ {l : List α} {ys : List β}, l.mapM f = some ys → ∀ a ∈ l, ∃ y, f a = some y
  | [], _, _, a, ha => by simp at ha
  | b :: l, ys, h, a, ha => by
    rw [List.mapM_cons] at h
    simp only [bind, Option.bind_eq_some_iff, pure, Option.some.injEq] at h
    obtain ⟨y, h1, ys', h2, rfl⟩ := h
    rcases List.mem_cons.1 ha with rfl | ha
    · exact ⟨y, h1⟩
    · exact mapM_each h2 a ha
theorem fits_reps {ks : List CK} : ∀ (n a : Nat) (cs : List Value), cs.length = (a + n) * ks.length → (∀ i, i < n → Fits ks ((cs.drop ((a + i) * ks.length)).take ks.length)) → Fits (List.replicate n ks).flatten (cs.drop (a * ks.length))
  | 0, a, cs, hl, _ => by
    have : cs.drop (a * ks.length) = [] := List.drop_eq_nil_of_le (by rw [hl]; simp)
    rw [this]; simp [Fits]
  | n + 1, a, cs, hl, h => by
    rw [List.replicate_succ, List.flatten_cons]
    have h0 := h 0 (by omega)
    have hr := fits_reps n (a + 1) cs (by rw [hl]; congr 1; omega) (fun i hi => by have := h (i + 1) (by omega); rw [show a + (i + 1) = a + 1 + i by omega] at this; exact this)
    rw [Nat.add_zero] at h0
    have := h0.append hr
    rw [Nat.add_mul, Nat.one_mul, ← List.drop_drop, List.take_append_drop] at this
    exact this
variable {w : World} {base : Nat} {spare : Nat → Bool} {held : Bool}
theorem fits_of_trod : ∀ {d : Nat} {t : TypeId} {ks : List CK} {fuel : Nat} {cs : List Value} {x : DataW H × List MemPlace}, flat P d t = some ks → DataW.trod enc P w base spare held fuel t cs = some x → Fits ks cs
  | 0, _, _, _, _, _, h, _ => by simp [flat] at h
  | d + 1, t, ks, fuel, cs, x, h, ht => by
    unfold flat at h
    cases hu : P.underlying t with
    | none => simp [hu] at h
    | some kd =>
      cases kd
      case bool =>
        simp only [hu, Option.some.injEq] at h
        subst h
        cases fuel with
        | zero => simp [DataW.trod] at ht
        | succ fuel =>
          unfold DataW.trod at ht
          rw [hu] at ht
          split at ht <;> simp_all
          exact ⟨⟨_, rfl⟩, trivial⟩
      case int k =>
        simp only [hu, Option.some.injEq] at h
        subst h
        obtain ⟨n, rfl, _, hw⟩ := DataW.trod_int hu ht
        simp only [Lit.wf, Bool.and_eq_true, decide_eq_true_eq] at hw
        exact ⟨⟨n, rfl, hw⟩, trivial⟩
      case array n e =>
        simp only [hu, Option.bind_eq_some_iff] at h
        obtain ⟨ks', he, h⟩ := h
        split at h
        · rename_i hc
          obtain ⟨hc1, hc2⟩ := hc
          simp only [Option.some.injEq] at h
          subst h
          obtain ⟨xs, m, rfl, rfl, hl, hxs, hi⟩ := DataW.trod_array hu ht
          have := fits_reps (ks := ks') n 0 cs (by rw [hl, hc2, Nat.zero_add]) (fun i hlt => by
            have := hi i hlt
            rw [List.getElem?_eq_getElem (by omega)] at this
            have hf := fits_of_trod he this
            rw [hc1, Nat.zero_add]
            exact hf)
          simpa using this
        · cases h
      case struct fs =>
        replace h : (if fs.all (fun g => g.name != "_") = true then (flat.go P (flat P d) fs.toList 0).bind (fun ks => if ks.length = P.cellsOf t then some ks else none) else none) = some ks := by simpa only [hu] using h
        split at h
        · simp only [Option.bind_eq_some_iff] at h
          obtain ⟨ks', hg, h⟩ := h
          split at h
          · rename_i hc
            simp only [Option.some.injEq] at h
            subst h
            obtain ⟨xs, m, rfl, rfl, hl, hxs, hi⟩ := DataW.trod_struct hu ht
            have each : ∀ f ∈ fs.toList, ∀ kf, flat P d f.type = some kf → Fits kf ((cs.drop f.offset).take (P.cellsOf f.type)) := by
              intro f hf kf hk
              obtain ⟨i, hi'⟩ := List.getElem?_of_mem hf
              have h1 : fs[i]? = some f := by simpa using hi'
              have := hi i f h1
              have hlt := (Array.getElem?_eq_some_iff.1 h1).1
              rw [List.getElem?_eq_getElem (by omega)] at this
              exact fits_of_trod hk this
            have key : ∀ (fs : List Field) (off : Nat) (ks : List CK), flat.go P (flat P d) fs off = some ks → off + ks.length = cs.length → (∀ f ∈ fs, ∀ kf, flat P d f.type = some kf → Fits kf ((cs.drop f.offset).take (P.cellsOf f.type))) →
                Fits ks (cs.drop off) := by
              intro fs
              induction fs with
              | nil =>
                intro off ks h hl _
                simp only [flat.go, Option.some.injEq] at h
                subst h
                rw [List.drop_eq_nil_of_le (by simp at hl; omega)]
                trivial
              | cons f fs ih =>
                intro off ks h hl he
                simp only [flat.go, Option.bind_eq_some_iff] at h
                obtain ⟨kf, hk, h⟩ := h
                split at h
                · rename_i hc
                  obtain ⟨hc1, hc2⟩ := hc
                  simp only [Option.map_eq_some_iff] at h
                  obtain ⟨kr, hr, rfl⟩ := h
                  rw [List.length_append] at hl
                  have h2 := ih _ _ hr (by omega) (fun g hg => he g (by simp [hg]))
                  have h1 := he f (by simp) kf hk
                  rw [hc1, ← hc2] at h1
                  have := h1.append h2
                  rw [← List.drop_drop, List.take_append_drop] at this
                  exact this
                · cases h
            have := key fs.toList 0 ks' hg (by omega) each
            simpa using this
          · cases h
        · cases h
      all_goals (simp [hu] at h; done)

/-- a slice of flat elements, as it lies in memory: element i's cells are g i -/
def Sl (W : World) (n : Nat) (xp : Option Addr) (l : Nat) (g : Nat → List Value) : Prop :=
  ∀ i, i < l → (g i).length = n ∧ ∃ b o, xp = some ⟨b, o, none⟩ ∧ ∀ j, j < n → W.cell? ⟨b, o + i * n + j, none⟩ = (g i)[j]?
theorem sl_open {t e : TypeId} {ks : List CK} {v : Value} {r : Reach} {b0 : Nat} {dd : DataW H} {ps : List MemPlace} (ht : P.underlying t = some (.slice e)) (hf : flat P 9 e = some ks) (hc : P.cellsOf e = ks.length) (hpos : 0 < ks.length)
    (hval : Value.okWide P w r b0 t v) (hd : DataW.Trod enc P w base spare held t v dd ps) :
    ∃ xp l c g, v = .slice xp l c ∧ l ≤ c ∧ c ≤ maxLen ∧ Sl w ks.length xp l g ∧ ∀ i, i < l → Fits ks (g i) := by
  obtain ⟨xp, l, c, rfl⟩ := okWide_slice ht hval
  obtain ⟨fuel, hfu⟩ := hd
  rcases Deep.open_slice ht hfu with ⟨h0, _⟩ | ⟨a, len, cap, m, n, D, Pl, h0, hb, hl, hm, hmm, _, hx⟩
  · simp only [Value.cells, List.cons.injEq, Value.slice.injEq, and_true] at h0
    obtain ⟨rfl, rfl, rfl⟩ := h0
    exact ⟨none, 0, 0, fun _ => [], rfl, Nat.le_refl _, by simp [maxLen], fun i hi => absurd hi (Nat.not_lt_zero _), fun i hi => absurd hi (Nat.not_lt_zero _)⟩
  · simp only [Value.cells, List.cons.injEq, Value.slice.injEq, and_true] at h0
    obtain ⟨rfl, rfl, rfl⟩ := h0
    have hlm : l ≤ m := by rw [hmm]; split <;> omega
    obtain ⟨g, hg⟩ := Deep.choose_lt (α := List Value) (n := l) (p := fun i es => w.cells? base (a.add (i * P.cellsOf e)) (P.cellsOf e) = some es ∧ Fits ks es) (fun i hi => by
      obtain ⟨es, h1, h2⟩ := hx i (by omega)
      exact ⟨es, h1, fits_of_trod hf h2⟩)
    refine ⟨some a, l, c, g, rfl, hl, hm, fun i hi => ?_, fun i hi => (hg i hi).2⟩
    obtain ⟨h1, h2⟩ := hg i hi
    obtain ⟨_, hlen, hcell⟩ := World.cells?_some h1
    rw [hc] at hlen hcell
    refine ⟨hlen, ?_⟩
    have hsp : a.spot = none := by
      obtain ⟨k1, k2⟩ := hg 0 (by omega)
      obtain ⟨_, klen, kcell⟩ := World.cells?_some k1
      rw [hc] at klen kcell
      have h0 := kcell 0 hpos
      rw [List.getElem?_eq_getElem (by omega)] at h0
      have e0 : (a.add (0 * ks.length)).add 0 = a := by simp [Addr.add]
      rw [e0] at h0
      unfold World.cell? at h0
      split at h0
      · split at h0
        · cases h0
        · rename_i hs
          cases hsa : a.spot with
          | none => rfl
          | some q => exact absurd (by simp [hsa]) hs
      · cases h0
    obtain ⟨b, o, sp⟩ := a
    simp only at hsp
    subst hsp
    refine ⟨b, o, rfl, fun j hj => ?_⟩
    have := hcell j hj
    rw [Deep.add_add] at this
    rw [← this]
    congr 1
    unfold Addr.add
    split
    · rename_i hz; rw [Nat.add_assoc, hz, Nat.add_zero]
    · rw [Nat.add_assoc]
theorem Sl.keep {S : Nat → Prop} {W W' : World} {n : Nat} {xp : Option Addr} {l : Nat} {g : Nat → List Value} (h : Sl W n xp l g) (hk : Keep S W W') (hS : ∀ k, k < W.heap.size → ¬ S k) : Sl W' n xp l g := by
  intro i hi
  obtain ⟨h1, b, o, rfl, h2⟩ := h i hi
  refine ⟨h1, b, o, rfl, fun j hj => ?_⟩
  have := h2 j hj
  rw [← this]
  rw [List.getElem?_eq_getElem (by omega)] at this
  have hb : b < W.heap.size := by
    unfold World.cell? at this
    cases hh : W.heap[b]? with
    | none => simp [hh] at this
    | some x => exact (Array.getElem?_eq_some_iff.1 hh).1
  exact World.cell?_of_block (w := W) (hk.block b hb (hS b hb))
theorem Sl.idx {W : World} {n : Nat} {xp : Option Addr} {l : Nat} {g : Nat → List Value} (h : Sl W n xp l g) {i : Int} (h0 : 0 ≤ i) (h1 : i < l) {K : Nat → Nat → Prop}
    (hK : ∀ b o, (∀ j, j < n → W.cell? ⟨b, o + j, none⟩ = (g i.toNat)[j]?) → (g i.toNat).length = n → K b o) : IdxS xp l i n K := by
  obtain ⟨h2, b, o, rfl, h3⟩ := h i.toNat (by omega)
  exact ⟨b, o, rfl, h0, h1, hK _ _ h3 h2⟩
/-- one cell an element -/
theorem Sl.ld {W : World} {xp : Option Addr} {l : Nat} {g : Nat → List Value} {v : Nat → Value} (h : Sl W 1 xp l g) (hg : ∀ i, i < l → g i = [v i]) {i : Int} (h0 : 0 ≤ i) (h1 : i < l) {K : Value → Prop} (hK : K (v i.toNat)) :
    IdxS xp l i 1 fun b o => LdV b o (At W) K :=
  h.idx h0 h1 fun b o hc _ => by
    refine LdV_at.2 ⟨v i.toNat, ?_, hK⟩
    have := hc 0 (by omega)
    rw [hg i.toNat (by omega)] at this
    simpa using this
theorem Sl.ld_iff {W : World} {xp : Option Addr} {l : Nat} {g : Nat → List Value} (h : Sl W 1 xp l g) {i : Int} (h0 : 0 ≤ i) (h1 : i < l) {v : Value} (hg : g i.toNat = [v]) {K : Value → Prop} :
    (IdxS xp l i 1 fun b o => LdV b o (At W) K) ↔ K v := by
  obtain ⟨h2, b, o, rfl, h3⟩ := h i.toNat (by omega)
  have hc : W.cell? ⟨b, o + i.toNat * 1, none⟩ = some v := by
    have := h3 0 (by omega)
    rw [hg] at this
    simpa using this
  constructor
  · rintro ⟨b', o', hp, _, _, hK⟩
    cases hp
    obtain ⟨v', hv, hK⟩ := LdV_at.1 hK
    rw [hc] at hv
    cases hv
    exact hK
  · exact fun hK => ⟨b, o, rfl, h0, h1, LdV_at.2 ⟨_, hc, hK⟩⟩
theorem agg_open {t : TypeId} {ks : List CK} {v : Value} {r : Reach} {b0 : Nat} {dd : DataW H} {ps : List MemPlace} (ht : (match P.underlying t with | some (.array _ _) | some (.struct _) => true | _ => false) = true) (hf : flat P 9 t = some ks)
    (hval : Value.okWide P w r b0 t v) (hd : DataW.Trod enc P w base spare held t v dd ps) : ∃ cs : Array Value, v = .agg cs ∧ Fits ks cs.toList := by
  obtain ⟨fuel, hfu⟩ := hd
  have hfits := fits_of_trod hf hfu
  unfold Value.okWide at hval
  split at hval
  · obtain ⟨cs, rfl, _⟩ := hval; exact ⟨cs, rfl, hfits⟩
  · obtain ⟨cs, rfl, _⟩ := hval; exact ⟨cs, rfl, hfits⟩
  · rename_i h1 h2
    split at ht
    · rename_i hu; exact absurd hu (h2 _ _)
    · rename_i hu; exact absurd hu (h1 _)
    · cases ht
end
end Go.Proofs
