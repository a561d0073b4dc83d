/-
  MirrorSides: what the pair is, step by step, while the power is on.
-/
import Derived.Test.YtjikegaipldnhaaBothP
import Derived.Test.YtjikegaipldnhaaPair2
namespace Go.Proofs
open Go Go.Ev
set_option linter.unusedSimpArgs false
set_option linter.unusedVariables false
set_option maxRecDepth 100000

def RecG (r : Rec) : Prop := recGood r = true ∧ (0 ≤ r.ver ∧ r.ver ≤ 18446744073709551615) ∧ SecOk r.data
/-- n versions are taken -/
structure SG (ep : Int) (s : PS) (n : Nat) : Prop where
  on : s.pw.on = true
  left : s.pw.left = 0
  last : s.last = n
  keys : ∀ k ∈ s.es.map (·.1), 0 ≤ k ∧ k < 40
  ents : ∀ e ∈ s.es, SecOk e.2.1 ∧ 0 ≤ e.2.2 ∧ e.2.2 ≤ 18446744073709551615
  epo : s.epoch = ep
  mem : ∀ g, ∃ rs : List Rec, sx g s = rs.flatMap packB ∧ rs.length ≤ n + 1 ∧ ∀ r ∈ rs, RecG r
def upF (s : PS) (f : Bool) : Bool := cond f s.ub s.ua
theorem step_on {p : Pow} (hon : p.on = true) (hl : p.left = 0) : (stepP p).1 = true ∧ (stepP p).2.on = true ∧ (stepP p).2.left = 0 := by
  unfold stepP
  rw [if_pos hon, if_pos hl]
  exact ⟨rfl, hon, hl⟩
theorem app_on {sz : Int} {x : Rec} {f : Bool} {s : PS} (hon : s.pw.on = true) (hl : s.pw.left = 0) (hr : 37 ≤ sz - ((sx f s).length : Int)) :
    (app1 sz x f s).1 = 0 ∧ (app1 sz x f s).2.pw.on = true ∧ (app1 sz x f s).2.pw.left = 0 ∧ sx f (app1 sz x f s).2 = sx f s ++ packB x ∧ sx (!f) (app1 sz x f s).2 = sx (!f) s := by
  obtain ⟨h0, h1, h2⟩ := step_on hon hl
  cases f
  · have e : app1 sz x false s = ((appP s.pw sz s.xa x).1, { s with pw := (appP s.pw sz s.xa x).2.1, xa := (appP s.pw sz s.xa x).2.2 }) := rfl
    rw [e, appP_on (bs := s.xa) hon hr, if_neg (by rw [h0]; simp)]
    exact ⟨rfl, h1, h2, rfl, rfl⟩
  · have e : app1 sz x true s = ((appP s.pw sz s.xb x).1, { s with pw := (appP s.pw sz s.xb x).2.1, xb := (appP s.pw sz s.xb x).2.2 }) := rfl
    rw [e, appP_on (bs := s.xb) hon hr, if_neg (by rw [h0]; simp)]
    exact ⟨rfl, h1, h2, rfl, rfl⟩
theorem mem_ins_ent {α : Type} {es : List (Int × α)} {x : Int} {v : α} {e : Int × α} (h : e ∈ ins es x v) : e.2 = v ∨ e ∈ es := by
  unfold ins at h
  split at h
  · obtain ⟨p', hp', he⟩ := List.mem_map.1 h
    split at he
    · left; rw [← he]
    · right; rw [← he]; exact hp'
  · rcases List.mem_append.1 h with h | h
    · exact Or.inr h
    · left; rw [List.mem_singleton.1 h]
theorem sg_room {ep : Int} {s : PS} {n : Nat} (h : SG ep s n) (hn : n ≤ 200) (g : Bool) : 37 ≤ (20000 : Int) - ((sx g s).length : Int) := by
  obtain ⟨rs, h1, h2, _⟩ := h.mem g
  rw [h1, len_flatPack]
  omega
/-- a put by a side that is up -/
theorem sg_put {ep : Int} {s : PS} {n : Nat} (h : SG ep s n) (hn : n < 200) (hnd : (s.es.map (·.1)).Nodup) {f : Bool} (hf : upF s f = true) {lba : Int} (hl : 0 ≤ lba ∧ lba < 40) {d : Sec} (hd : SecOk d) :
    (putP 64 20000 s f lba d).1.2 = 0 ∧ SG ep (putP 64 20000 s f lba d).2 (n + 1) ∧ (∀ g, upF (putP 64 20000 s f lba d).2 g = upF s g) ∧ (upF s (!f) = false → sx (!f) (putP 64 20000 s f lba d).2 = sx (!f) s) := by
  have hroom : ¬ (mlook s.es lba = none ∧ (64 : Int) ≤ (s.es.length : Int)) := by
    rintro ⟨h1, h2⟩
    have h3 := mlook_none h1
    have := nodup_len 40 (lba :: s.es.map (·.1)) (List.nodup_cons.2 ⟨h3, hnd⟩) fun x hx => by
      rcases List.mem_cons.1 hx with rfl | hx
      · exact hl
      · exact h.keys x hx
    simp only [List.length_cons, List.length_map] at this
    omega
  have hver : IntKind.wrap .u64 (s.last + 1) = (n : Int) + 1 := by rw [h.last, wrapU64 (by omega) (by omega)]
  have hf' : (cond f s.ub s.ua) = true := hf
  unfold putP
  rw [if_neg (by omega), if_neg (by rw [hf']; simp), if_neg hroom]
  simp only [hver]
  obtain ⟨x, hx⟩ : ∃ x : Rec, x = ⟨1, (n : Int) + 1, lba, d⟩ := ⟨_, rfl⟩
  rw [← hx]
  have hxg : RecG x := by
    rw [hx]
    refine ⟨?_, ⟨?_, ?_⟩, hd⟩
    · unfold recGood
      simp only [Bool.and_eq_true, decide_eq_true_eq]
      omega
    · show (0 : Int) ≤ (n : Int) + 1; omega
    · show (n : Int) + 1 ≤ 18446744073709551615; omega
  obtain ⟨s1, hs1⟩ : ∃ s1 : PS, s1 = { s with last := (n : Int) + 1 } := ⟨_, rfl⟩
  rw [← hs1]
  have m1 : ∀ g, sx g s1 = sx g s := fun g => by rw [hs1]; cases g <;> rfl
  have u1 : ∀ g, upF s1 g = upF s g := fun g => by rw [hs1]; cases g <;> rfl
  obtain ⟨e1, e2, e3, e4, e5⟩ := eachP_same (sz := 20000) (x := x) (f := f) s1
  -- what each does
  have key : (eachP 20000 x f s1).1 = 0 ∧ (eachP 20000 x f s1).2.pw.on = true ∧ (eachP 20000 x f s1).2.pw.left = 0 ∧ sx f (eachP 20000 x f s1).2 = sx f s ++ packB x ∧ (sx (!f) (eachP 20000 x f s1).2 = sx (!f) s ++ packB x ∨ sx (!f) (eachP 20000 x f s1).2 = sx (!f) s) ∧ (upF s (!f) = false → sx (!f) (eachP 20000 x f s1).2 = sx (!f) s) := by
    have on1 : s1.pw.on = true := by rw [hs1]; exact h.on
    have le1 : s1.pw.left = 0 := by rw [hs1]; exact h.left
    obtain ⟨a1, a2, a3, a4, a5⟩ := app_on (sz := 20000) (x := x) (f := f) on1 le1 (by rw [m1]; exact sg_room h (by omega) f)
    have hup : upS s1 f = if upF s (!f) = true then [f, !f] else [f] := by
      have h1 : upF s1 f = true := by rw [u1]; exact hf
      rw [← u1]
      have dec : ∀ (g ua ub : Bool), (cond g ub ua) = true → ([g, !g].filter fun g => cond g ub ua) = if (cond (!g) ub ua) = true then [g, !g] else [g] := by decide
      exact dec f s1.ua s1.ub h1
    unfold eachP
    rw [hup]
    by_cases h3 : upF s (!f) = true
    · rw [if_pos h3]
      have two : eachS 20000 x [f, !f] s1 = if (app1 20000 x f s1).1 ≠ 0 then app1 20000 x f s1 else if (app1 20000 x (!f) (app1 20000 x f s1).2).1 ≠ 0 then app1 20000 x (!f) (app1 20000 x f s1).2 else (0, (app1 20000 x (!f) (app1 20000 x f s1).2).2) := rfl
      rw [two, if_neg (by rw [a1]; simp)]
      generalize (app1 20000 x f s1).2 = s2 at *
      obtain ⟨b1, b2, b3, b4, b5⟩ := app_on (sz := 20000) (x := x) (f := !f) a2 a3 (by rw [a5, m1]; exact sg_room h (by omega) (!f))
      rw [if_neg (by rw [b1]; simp)]
      rw [Bool.not_not] at b5
      refine ⟨rfl, b2, b3, ?_, Or.inl ?_, fun h4 => by rw [h4] at h3; cases h3⟩
      · show sx f _ = _; rw [b5, a4, m1]
      · show sx (!f) _ = _; rw [b4, a5, m1]
    · rw [if_neg h3]
      have one : eachS 20000 x [f] s1 = if (app1 20000 x f s1).1 ≠ 0 then app1 20000 x f s1 else (0, (app1 20000 x f s1).2) := rfl
      rw [one, if_neg (by rw [a1]; simp)]
      refine ⟨rfl, a2, a3, ?_, Or.inr ?_, fun _ => ?_⟩
      · show sx f _ = _; rw [a4, m1]
      · show sx (!f) _ = _; rw [a5, m1]
      · show sx (!f) _ = _; rw [a5, m1]
  obtain ⟨k1, k2, k3, k4, k5, k6⟩ := key
  rw [if_neg (by rw [k1]; simp)]
  refine ⟨rfl, ⟨k2, k3, ?_, ?_, ?_, ?_, ?_⟩, ?_, k6⟩
  · show (eachP 20000 x f s1).2.last = _
    rw [e2, hs1]; show (n : Int) + 1 = _; omega
  · intro k hk
    have hk : k ∈ (if putE 64 s.es lba ((n : Int) + 1) = 0 then ins s.es lba (d, (n : Int) + 1) else s.es).map (·.1) := hk
    split at hk
    · rcases mem_ins_key hk with rfl | hk
      · exact hl
      · exact h.keys k hk
    · exact h.keys k hk
  · intro e he
    have he : e ∈ (if putE 64 s.es lba ((n : Int) + 1) = 0 then ins s.es lba (d, (n : Int) + 1) else s.es) := he
    split at he
    · rcases mem_ins_ent he with h1 | h1
      · rw [h1]
        exact ⟨hd, by show (0 : Int) ≤ (n : Int) + 1; omega, by show (n : Int) + 1 ≤ 18446744073709551615; omega⟩
      · exact h.ents e h1
    · exact h.ents e he
  · show (eachP 20000 x f s1).2.epoch = _
    rw [e3, hs1]; exact h.epo
  · have grow : ∀ g, sx g (eachP 20000 x f s1).2 = sx g s ++ packB x ∨ sx g (eachP 20000 x f s1).2 = sx g s := by
      intro g
      by_cases hg : g = f
      · rw [hg]; exact Or.inl k4
      · have hg : g = !f := by cases g <;> cases f <;> simp_all
        rw [hg]; exact k5
    intro g
    obtain ⟨rs, h1, h2, h3⟩ := h.mem g
    rcases grow g with hg | hg
    · refine ⟨rs ++ [x], ?_, by simp; omega, ?_⟩
      · show sx g (eachP 20000 x f s1).2 = _
        rw [hg, h1, List.flatMap_append]; simp
      · intro r hr
        rcases List.mem_append.1 hr with hr | hr
        · exact h3 r hr
        · rw [List.mem_singleton.1 hr]; exact hxg
    · exact ⟨rs, by show sx g (eachP 20000 x f s1).2 = _; rw [hg, h1], by omega, h3⟩
  · intro g
    cases g
    · show (eachP 20000 x f s1).2.ua = _; rw [e4, hs1]; rfl
    · show (eachP 20000 x f s1).2.ub = _; rw [e5, hs1]; rfl
theorem sg_down {ep : Int} {s : PS} {n : Nat} (h : SG ep s n) (f v : Bool) : SG ep (downS s f v) n := ⟨h.on, h.left, h.last, h.keys, h.ents, h.epo, fun g => by cases g; exact h.mem false; exact h.mem true⟩
/-- a load of the epoch and the dirty records -/
theorem sg_load {s : PS} (hon : s.pw.on = true) (hle : s.pw.left = 0) {rs : List Rec} (hr : rs.length ≤ 100) (f : Bool) :
    (load1 20000 rs f s).1 = 0 ∧ (load1 20000 rs f s).2.pw.on = true ∧ (load1 20000 rs f s).2.pw.left = 0 ∧ sx f (load1 20000 rs f s).2 = rs.flatMap packB ∧ sx (!f) (load1 20000 rs f s).2 = sx (!f) s := by
  obtain ⟨h0, h1, h2⟩ := step_on hon hle
  have e : ∀ bs, loadP s.pw 20000 bs rs = (0, (stepP s.pw).2, rs.flatMap packB) := by
    intro bs
    unfold loadP
    rw [if_neg (by rw [hon]; simp), if_neg (by omega), if_neg (by rw [h0]; simp)]
  cases f
  · have e1 : load1 20000 rs false s = ((loadP s.pw 20000 s.xa rs).1, { s with pw := (loadP s.pw 20000 s.xa rs).2.1, xa := (loadP s.pw 20000 s.xa rs).2.2 }) := rfl
    rw [e1, e]
    exact ⟨rfl, h1, h2, rfl, rfl⟩
  · have e1 : load1 20000 rs true s = ((loadP s.pw 20000 s.xb rs).1, { s with pw := (loadP s.pw 20000 s.xb rs).2.1, xb := (loadP s.pw 20000 s.xb rs).2.2 }) := rfl
    rw [e1, e]
    exact ⟨rfl, h1, h2, rfl, rfl⟩
theorem load1_up {sz : Int} {rs : List Rec} {f : Bool} {s : PS} : (load1 sz rs f s).2.ua = s.ua ∧ (load1 sz rs f s).2.ub = s.ub ∧ (load1 sz rs f s).2.last = s.last := by cases f <;> exact ⟨rfl, rfl, rfl⟩
end Go.Proofs
