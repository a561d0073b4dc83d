/-
  MirrorBoth: what a put does to both memories, whatever step the power goes at; and what the records say.
-/
import Derived.Test.YtjikegaipldnhaaAw12
namespace Go.Proofs
open Go Go.Ev
set_option linter.unusedSimpArgs false
set_option linter.unusedVariables false
set_option maxRecDepth 100000

theorem nodup_len : ∀ (N : Nat) (l : List Int), l.Nodup → (∀ x ∈ l, 0 ≤ x ∧ x < (N : Int)) → l.length ≤ N
  | 0, l, _, h => by
    cases l with
    | nil => exact Nat.le_refl _
    | cons a l => have := h a (by simp); omega
  | N + 1, l, hn, h => by
    by_cases hm : (N : Int) ∈ l
    · have h1 := nodup_len N (l.erase (N : Int)) (hn.erase _) fun x hx => by
        rw [hn.mem_erase_iff] at hx
        have := h x hx.2
        have h2 := hx.1
        omega
      rw [List.length_erase_of_mem hm] at h1
      omega
    · have := nodup_len N l hn fun x hx => by
        have h2 := h x hx
        have : x ≠ (N : Int) := fun e => hm (e ▸ hx)
        omega
      omega
theorem CacheAt.keysNd {w : World} {c m : Nat} {room : Int} {es : List (Int × Ent)} (h : CacheAt w c m room es) : (es.map (·.1)).Nodup := by
  obtain ⟨_, arr, clk, _, ho⟩ := h
  have := ho.keys
  unfold tag at this
  rw [List.map_map] at this
  exact this
theorem mlook_none {α : Type} {es : List (Int × α)} {x : Int} (h : mlook es x = none) : x ∉ es.map (·.1) := by
  intro hx
  obtain ⟨p, hp, he⟩ := List.mem_map.1 hx
  unfold mlook at h
  rw [Option.map_eq_none_iff, List.find?_eq_none] at h
  exact h p hp (by simpa using he)
theorem mem_ins_key {α : Type} {es : List (Int × α)} {x y : Int} {v : α} (h : y ∈ (ins es x v).map (·.1)) : y = x ∨ y ∈ es.map (·.1) := by
  obtain ⟨p, hp, rfl⟩ := List.mem_map.1 h
  unfold ins at hp
  split at hp
  · obtain ⟨p', hp', e⟩ := List.mem_map.1 hp
    split at e
    · left; rw [← e]
    · right; exact List.mem_map.2 ⟨p', hp', by rw [← e]⟩
  · rcases List.mem_append.1 hp with h | h
    · right; exact List.mem_map.2 ⟨p, h, rfl⟩
    · left; rw [List.mem_singleton.1 h]

/-! ### the records -/
def lbAt (ls : List Int) (i : Nat) : Int := ls.getD i 0 % 64
def recB (ls : List Int) (i : Nat) : Rec := ⟨1, i + 1, lbAt ls i, sec [i, lbAt ls i]⟩
def recsB (ls : List Int) (n : Nat) : List Rec := (List.range n).map (recB ls)
theorem recsB_succ (ls : List Int) (n : Nat) : recsB ls (n + 1) = recsB ls n ++ [recB ls n] := by unfold recsB; rw [List.range_succ, List.map_append]; rfl
theorem len_recsB (ls : List Int) (n : Nat) : (recsB ls n).length = n := by simp [recsB]
theorem lbAt_lt (ls : List Int) (i : Nat) : 0 ≤ lbAt ls i ∧ lbAt ls i < 64 := by unfold lbAt; omega
theorem recB_ok (ls : List Int) {i : Nat} (hi : i < 200) : recGood (recB ls i) = true ∧ (0 ≤ (recB ls i).ver ∧ (recB ls i).ver ≤ 18446744073709551615) ∧ SecOk (recB ls i).data := by
  have := lbAt_lt ls i
  refine ⟨?_, ⟨?_, ?_⟩, ?_⟩
  · unfold recGood recB
    simp only [Bool.and_eq_true, decide_eq_true_eq]
    omega
  · show (0 : Int) ≤ (i : Int) + 1; omega
  · show (i : Int) + 1 ≤ 18446744073709551615; omega
  · refine sec_ok fun x hx => ?_
    simp only [List.mem_cons, List.not_mem_nil, or_false] at hx
    rcases hx with rfl | rfl <;> omega
theorem recsB_ok (ls : List Int) {n : Nat} (hn : n ≤ 200) : ∀ r ∈ recsB ls n, recGood r = true ∧ (0 ≤ r.ver ∧ r.ver ≤ 18446744073709551615) ∧ SecOk r.data := by
  intro r hr
  obtain ⟨i, hi, rfl⟩ := List.mem_map.1 hr
  have := List.mem_range.1 hi
  exact recB_ok ls (by omega)

/-- of sector k the greatest version, and no less than t -/
def mx (l : List Rec) (k : Int) (t : Int) : Int := l.foldl (fun t r => if r.lba = k then max t r.ver else t) t
theorem mx_append (a b : List Rec) (k t : Int) : mx (a ++ b) k t = mx b k (mx a k t) := by unfold mx; rw [List.foldl_append]
theorem mx_max : ∀ (l : List Rec) (k t u : Int), mx l k (max t u) = max t (mx l k u)
  | [], _, _, _ => rfl
  | r :: l, k, t, u => by
    show mx l k (if r.lba = k then max (max t u) r.ver else max t u) = max t (mx l k (if r.lba = k then max u r.ver else u))
    split
    · rw [Int.max_assoc]; exact mx_max l k t _
    · exact mx_max l k t _
theorem mx_ge (l : List Rec) (k t : Int) : t ≤ mx l k t := by
  have := mx_max l k t t
  rw [Int.max_self] at this
  omega
def mB (ls : List Int) (n : Nat) (k : Int) : Int := mx (recsB ls n) k 0
theorem mB_le (ls : List Int) (k : Int) : ∀ n : Nat, 0 ≤ mB ls n k ∧ mB ls n k ≤ (n : Int)
  | 0 => ⟨Int.le_refl _, Int.le_refl _⟩
  | n + 1 => by
    have h := mB_le ls k n
    unfold mB at *
    rw [recsB_succ, mx_append]
    show 0 ≤ (if lbAt ls n = k then max (mx (recsB ls n) k 0) ((n : Int) + 1) else mx (recsB ls n) k 0) ∧ (if lbAt ls n = k then max (mx (recsB ls n) k 0) ((n : Int) + 1) else mx (recsB ls n) k 0) ≤ ((n + 1 : Nat) : Int)
    split <;> omega
theorem mB_succ (ls : List Int) (n : Nat) (k : Int) : mB ls (n + 1) k = if lbAt ls n = k then (n : Int) + 1 else mB ls n k := by
  have h := mB_le ls k n
  unfold mB at *
  rw [recsB_succ, mx_append]
  show (if lbAt ls n = k then max (mx (recsB ls n) k 0) ((n : Int) + 1) else mx (recsB ls n) k 0) = _
  split <;> omega
theorem mx_le : ∀ (l : List Rec) (k t N : Int), t ≤ N → (∀ r ∈ l, r.ver ≤ N) → mx l k t ≤ N
  | [], _, _, _, h, _ => h
  | r :: l, k, t, N, h, hl => by
    refine mx_le l k _ N ?_ fun x hx => hl x (by simp [hx])
    have := hl r (by simp)
    show (if r.lba = k then max t r.ver else t) ≤ N
    split <;> omega

/-! ### puts -/
/-- n puts have been answered -/
structure Good12 (ls : List Int) (s : PS) (n : Nat) : Prop where
  ua : s.ua = true
  ub : s.ub = true
  on : s.pw.on = true
  left : 1 ≤ s.pw.left ∧ s.pw.left ≤ 1000
  xa : s.xa = (recsB ls n).flatMap packB
  xb : s.xb = (recsB ls n).flatMap packB
  last : s.last = n
  keys : ∀ k ∈ s.es.map (·.1), 0 ≤ k ∧ k < 64
/-- what both memories hold in the end: the answered puts, and o, if it is there, whole or torn -/
def End12 (ls : List Int) (xa xb : List Int) (o : Int) (m : Nat) : Prop :=
  ∃ (ja jb : Nat) (ta tb : List Int), (ja = m ∨ o = m ∧ ja = m + 1) ∧ (jb = m ∨ o = m ∧ jb = m + 1) ∧ ta.length < 37 ∧ tb.length < 37 ∧ By ta ∧ By tb ∧ xa = (recsB ls ja).flatMap packB ++ ta ∧ xb = (recsB ls jb).flatMap packB ++ tb
theorem step_cases {p : Pow} (hon : p.on = true) (hl : 1 ≤ p.left ∧ p.left ≤ 1000) : (stepP p).1 = false ∨ (stepP p).1 = true ∧ (stepP p).2.on = true ∧ 1 ≤ (stepP p).2.left ∧ (stepP p).2.left ≤ 1000 := by
  unfold stepP
  rw [if_pos hon, if_neg (by omega)]
  by_cases h1 : p.left = 1
  · rw [if_pos h1]; exact Or.inl rfl
  · rw [if_neg h1]
    have e : IntKind.wrap .i64 (p.left - 1) = p.left - 1 := wrapI (by omega) (by omega)
    refine Or.inr ⟨rfl, hon, ?_, ?_⟩
    · show 1 ≤ IntKind.wrap .i64 (p.left - 1); rw [e]; omega
    · show IntKind.wrap .i64 (p.left - 1) ≤ 1000; rw [e]; omega
theorem appP_on {pw : Pow} {sz : Int} {bs : List Int} {x : Rec} (hon : pw.on = true) (hr : 37 ≤ sz - (bs.length : Int)) :
    appP pw sz bs x = if (stepP pw).1 = false then (4, (stepP pw).2, bs ++ (packB x).take 18) else (0, (stepP pw).2, bs ++ packB x) := by
  unfold appP
  rw [if_neg (by rw [hon]; simp), if_neg (by omega)]
def sx (f : Bool) (s : PS) : List Int := cond f s.xb s.xa
theorem app1_cases {sz : Int} {x : Rec} {f : Bool} {s : PS} (hon : s.pw.on = true) (hl : 1 ≤ s.pw.left ∧ s.pw.left ≤ 1000) (hr : 37 ≤ sz - ((sx f s).length : Int)) :
    ((app1 sz x f s).1 = 4 ∧ sx f (app1 sz x f s).2 = sx f s ++ (packB x).take 18 ∧ sx (!f) (app1 sz x f s).2 = sx (!f) s) ∨
    ((app1 sz x f s).1 = 0 ∧ (app1 sz x f s).2.pw.on = true ∧ (1 ≤ (app1 sz x f s).2.pw.left ∧ (app1 sz x f s).2.pw.left ≤ 1000) ∧ sx f (app1 sz x f s).2 = sx f s ++ packB x ∧ sx (!f) (app1 sz x f s).2 = sx (!f) s) := by
  cases f
  · have e : app1 sz x false s = ((appP s.pw sz s.xa x).1, { s with pw := (appP s.pw sz s.xa x).2.1, xa := (appP s.pw sz s.xa x).2.2 }) := rfl
    rw [e, appP_on (bs := s.xa) hon hr]
    rcases step_cases hon hl with hf | ⟨ht, h1, h2⟩
    · rw [if_pos hf]; exact Or.inl ⟨rfl, rfl, rfl⟩
    · rw [if_neg (by rw [ht]; simp)]; exact Or.inr ⟨rfl, h1, h2, rfl, rfl⟩
  · have e : app1 sz x true s = ((appP s.pw sz s.xb x).1, { s with pw := (appP s.pw sz s.xb x).2.1, xb := (appP s.pw sz s.xb x).2.2 }) := rfl
    rw [e, appP_on (bs := s.xb) hon hr]
    rcases step_cases hon hl with hf | ⟨ht, h1, h2⟩
    · rw [if_pos hf]; exact Or.inl ⟨rfl, rfl, rfl⟩
    · rw [if_neg (by rw [ht]; simp)]; exact Or.inr ⟨rfl, h1, h2, rfl, rfl⟩
theorem End12.of {ls : List Int} {s : PS} {o : Int} {m : Nat} (f : Bool) {j1 j2 : Nat} {t1 t2 : List Int} (h1 : j1 = m ∨ o = m ∧ j1 = m + 1) (h2 : j2 = m ∨ o = m ∧ j2 = m + 1) (l1 : t1.length < 37) (l2 : t2.length < 37) (b1 : By t1) (b2 : By t2)
    (x1 : sx f s = (recsB ls j1).flatMap packB ++ t1) (x2 : sx (!f) s = (recsB ls j2).flatMap packB ++ t2) : End12 ls s.xa s.xb o m := by
  cases f
  · exact ⟨j1, j2, t1, t2, h1, h2, l1, l2, b1, b2, x1, x2⟩
  · exact ⟨j2, j1, t2, t1, h2, h1, l2, l1, b2, b1, x2, x1⟩
theorem each12 {ls : List Int} {s : PS} {n : Nat} (hon : s.pw.on = true) (hl : 1 ≤ s.pw.left ∧ s.pw.left ≤ 1000) (hn : n < 200) (f : Bool) (hx : ∀ g, sx g s = (recsB ls n).flatMap packB) :
    ((eachS 30000 (recB ls n) [f, !f] s).1 = 4 ∧ End12 ls (eachS 30000 (recB ls n) [f, !f] s).2.xa (eachS 30000 (recB ls n) [f, !f] s).2.xb n n) ∨
    ((eachS 30000 (recB ls n) [f, !f] s).1 = 0 ∧ (eachS 30000 (recB ls n) [f, !f] s).2.pw.on = true ∧ (1 ≤ (eachS 30000 (recB ls n) [f, !f] s).2.pw.left ∧ (eachS 30000 (recB ls n) [f, !f] s).2.pw.left ≤ 1000) ∧ ∀ g, sx g (eachS 30000 (recB ls n) [f, !f] s).2 = (recsB ls (n + 1)).flatMap packB) := by
  have hlen : ((recsB ls n).flatMap packB).length = 37 * n := by rw [len_flatPack, len_recsB]
  have hbt : By ((packB (recB ls n)).take 18) := fun x hx => by_packB (recB_ok ls hn).2.2 x (List.mem_of_mem_take hx)
  have hlt : ((packB (recB ls n)).take 18).length < 37 := by rw [List.length_take]; omega
  have hsucc : (recsB ls (n + 1)).flatMap packB = (recsB ls n).flatMap packB ++ packB (recB ls n) := by rw [recsB_succ, List.flatMap_append]; simp
  have bn : By [] := fun x hx => by simp at hx
  have two : eachS 30000 (recB ls n) [f, !f] s = if (app1 30000 (recB ls n) f s).1 ≠ 0 then app1 30000 (recB ls n) f s else if (app1 30000 (recB ls n) (!f) (app1 30000 (recB ls n) f s).2).1 ≠ 0 then app1 30000 (recB ls n) (!f) (app1 30000 (recB ls n) f s).2 else (0, (app1 30000 (recB ls n) (!f) (app1 30000 (recB ls n) f s).2).2) := rfl
  rw [two]
  rcases app1_cases (sz := 30000) (x := recB ls n) (f := f) hon hl (by rw [hx, hlen]; omega) with ⟨h1, h2, h3⟩ | ⟨h1, h2, h3, h4, h5⟩
  · rw [if_pos (by rw [h1]; decide)]
    exact Or.inl ⟨h1, End12.of f (t2 := []) (Or.inl rfl) (Or.inl rfl) hlt (by decide) hbt bn (by rw [h2, hx]) (by rw [h3, hx, List.append_nil])⟩
  · rw [if_neg (by rw [h1]; decide)]
    generalize (app1 30000 (recB ls n) f s).2 = s2 at *
    rw [hx] at h4 h5
    rcases app1_cases (sz := 30000) (x := recB ls n) (f := !f) h2 h3 (by rw [h5, hlen]; omega) with ⟨g1, g2, g3⟩ | ⟨g1, g2, g3, g4, g5⟩
    · rw [if_pos (by rw [g1]; decide)]
      rw [Bool.not_not] at g3
      exact Or.inl ⟨g1, End12.of f (t1 := []) (Or.inr ⟨rfl, rfl⟩) (Or.inl rfl) (by decide) hlt bn hbt (by rw [g3, h4, hsucc, List.append_nil]) (by rw [g2, h5])⟩
    · rw [if_neg (by rw [g1]; decide)]
      rw [Bool.not_not] at g5
      refine Or.inr ⟨rfl, g2, g3, fun g => ?_⟩
      by_cases hg : g = f
      · rw [hg]; show sx f _ = _; rw [g5, h4, hsucc]
      · have hg : g = !f := by cases g <;> cases f <;> simp_all
        rw [hg]; show sx (!f) _ = _; rw [g4, h5, hsucc]
theorem put12 {ls : List Int} {s : PS} {n : Nat} (h : Good12 ls s n) (hn : n < 200) (hnd : (s.es.map (·.1)).Nodup) (f : Bool) :
    ((putP 64 30000 s f (lbAt ls n) (recB ls n).data).1.2 = 0 ∧ Good12 ls (putP 64 30000 s f (lbAt ls n) (recB ls n).data).2 (n + 1)) ∨
    ((putP 64 30000 s f (lbAt ls n) (recB ls n).data).1.2 ≠ 0 ∧ End12 ls (putP 64 30000 s f (lbAt ls n) (recB ls n).data).2.xa (putP 64 30000 s f (lbAt ls n) (recB ls n).data).2.xb n n) := by
  have hlb := lbAt_lt ls n
  have hroom : ¬ (mlook s.es (lbAt ls n) = none ∧ (64 : Int) ≤ (s.es.length : Int)) := by
    rintro ⟨h1, h2⟩
    have h3 := mlook_none h1
    have := nodup_len 64 (lbAt ls n :: s.es.map (·.1)) (List.nodup_cons.2 ⟨h3, hnd⟩) fun x hx => by
      rcases List.mem_cons.1 hx with rfl | hx
      · exact hlb
      · exact h.keys x hx
    simp only [List.length_cons, List.length_map] at this
    omega
  have hver : IntKind.wrap .u64 (s.last + 1) = (n : Int) + 1 := by rw [h.last, wrapU64 (by omega) (by omega)]
  unfold putP
  rw [if_neg (by omega), if_neg (by cases f <;> simp [h.ua, h.ub]), if_neg hroom]
  simp only [hver]
  have erec : (⟨1, (n : Int) + 1, lbAt ls n, (recB ls n).data⟩ : Rec) = recB ls n := rfl
  rw [erec]
  have hup : upS { s with last := (n : Int) + 1 } f = [f, !f] := by
    unfold upS
    cases f <;> simp [h.ua, h.ub]
  unfold eachP
  rw [hup]
  obtain ⟨e1, e2, e3, e4, e5⟩ := eachS_same (sz := 30000) (x := recB ls n) [f, !f] { s with last := (n : Int) + 1 }
  rcases each12 (ls := ls) (s := { s with last := (n : Int) + 1 }) h.on h.left hn f (fun g => by cases g; exact h.xa; exact h.xb) with ⟨g1, g2⟩ | ⟨g1, g2, g3, g4⟩
  · rw [if_pos (by rw [g1]; decide)]
    exact Or.inr ⟨by rw [g1]; simp, g2⟩
  · rw [if_neg (by rw [g1]; decide)]
    refine Or.inl ⟨rfl, e4.trans h.ua, e5.trans h.ub, g2, g3, g4 false, g4 true, ?_, ?_⟩
    · show (eachS 30000 (recB ls n) [f, !f] { s with last := (n : Int) + 1 }).2.last = _
      rw [e2]; show (n : Int) + 1 = _; omega
    · intro k hk
      have hk : k ∈ (if putE 64 s.es (lbAt ls n) ((n : Int) + 1) = 0 then ins s.es (lbAt ls n) ((recB ls n).data, (n : Int) + 1) else s.es).map (·.1) := hk
      split at hk
      · rcases mem_ins_key hk with rfl | hk
        · exact hlb
        · exact h.keys k hk
      · exact h.keys k hk
/-- what both lists, or the first one, say of a sector -/
theorem said12 {ls : List Int} {o : Int} {m ja jb : Nat} (ha : ja = m ∨ o = m ∧ ja = m + 1) (hb : jb = m ∨ o = m ∧ jb = m + 1) (k : Int) (two : Bool) :
    mx (cond two [recsB ls ja] [recsB ls ja, recsB ls jb]).flatten k 0 = mB ls m k ∨ (o = m ∧ lbAt ls m = k ∧ mx (cond two [recsB ls ja] [recsB ls ja, recsB ls jb]).flatten k 0 = (m : Int) + 1) := by
  have one : ∀ {j : Nat}, (j = m ∨ o = m ∧ j = m + 1) → mB ls j k = mB ls m k ∨ (o = m ∧ lbAt ls m = k ∧ mB ls j k = (m : Int) + 1) := by
    intro j hj
    rcases hj with rfl | ⟨ho, rfl⟩
    · exact Or.inl rfl
    · rw [mB_succ]
      by_cases hk : lbAt ls m = k
      · exact Or.inr ⟨ho, hk, if_pos hk⟩
      · exact Or.inl (if_neg hk)
  have hle := mB_le ls k m
  cases two
  · have e : mx (cond false [recsB ls ja] [recsB ls ja, recsB ls jb]).flatten k 0 = max (mB ls ja k) (mB ls jb k) := by
      show mx (recsB ls ja ++ (recsB ls jb ++ [])) k 0 = _
      rw [List.append_nil, mx_append]
      have := mx_max (recsB ls jb) k (mB ls ja k) 0
      rw [Int.max_eq_left (mB_le ls k ja).1] at this
      exact this
    rw [e]
    rcases one ha with h1 | ⟨h0, h1, h2⟩ <;> rcases one hb with h3 | ⟨h0', h3, h4⟩
    · left; omega
    · right; exact ⟨h0', h3, by omega⟩
    · right; exact ⟨h0, h1, by omega⟩
    · right; exact ⟨h0, h1, by omega⟩
  · have e : mx (cond true [recsB ls ja] [recsB ls ja, recsB ls jb]).flatten k 0 = mB ls ja k := by
      show mx (recsB ls ja ++ []) k 0 = _
      rw [List.append_nil]; rfl
    rw [e]
    exact one ha
end Go.Proofs
