/-
  Events and sectors as they are handed in.
-/
import Derived.Test.YtdjlmpkjdgmkkaaHistL
import Derived.Test.YtdjlmpkjdgmkkaaLift2
namespace Go.Proofs
open Go Go.Ev Go.RowKit
set_option linter.unusedVariables false
theorem sec_of' {cs : Array Value} (h : Fits (List.replicate 16 (.int .u8)) cs.toList) : ∃ f, cs = secV f ∧ SecOk f := by
  have hr : Fits [.int .u8, .int .u8, .int .u8, .int .u8, .int .u8, .int .u8, .int .u8, .int .u8, .int .u8, .int .u8, .int .u8, .int .u8, .int .u8, .int .u8, .int .u8, .int .u8] cs.toList := h
  obtain ⟨_, _, e0, ⟨a0, rfl, b0, d0⟩, h0⟩ := fits_cons hr
  obtain ⟨_, _, rfl, ⟨a1, rfl, b1, d1⟩, h1⟩ := fits_cons h0
  obtain ⟨_, _, rfl, ⟨a2, rfl, b2, d2⟩, h2⟩ := fits_cons h1
  obtain ⟨_, _, rfl, ⟨a3, rfl, b3, d3⟩, h3⟩ := fits_cons h2
  obtain ⟨_, _, rfl, ⟨a4, rfl, b4, d4⟩, h4⟩ := fits_cons h3
  obtain ⟨_, _, rfl, ⟨a5, rfl, b5, d5⟩, h5⟩ := fits_cons h4
  obtain ⟨_, _, rfl, ⟨a6, rfl, b6, d6⟩, h6⟩ := fits_cons h5
  obtain ⟨_, _, rfl, ⟨a7, rfl, b7, d7⟩, h7⟩ := fits_cons h6
  obtain ⟨_, _, rfl, ⟨a8, rfl, b8, d8⟩, h8⟩ := fits_cons h7
  obtain ⟨_, _, rfl, ⟨a9, rfl, b9, d9⟩, h9⟩ := fits_cons h8
  obtain ⟨_, _, rfl, ⟨a10, rfl, b10, d10⟩, h10⟩ := fits_cons h9
  obtain ⟨_, _, rfl, ⟨a11, rfl, b11, d11⟩, h11⟩ := fits_cons h10
  obtain ⟨_, _, rfl, ⟨a12, rfl, b12, d12⟩, h12⟩ := fits_cons h11
  obtain ⟨_, _, rfl, ⟨a13, rfl, b13, d13⟩, h13⟩ := fits_cons h12
  obtain ⟨_, _, rfl, ⟨a14, rfl, b14, d14⟩, h14⟩ := fits_cons h13
  obtain ⟨_, _, rfl, ⟨a15, rfl, b15, d15⟩, h15⟩ := fits_cons h14
  cases fits_nil h15
  refine ⟨sec [a0, a1, a2, a3, a4, a5, a6, a7, a8, a9, a10, a11, a12, a13, a14, a15], Array.toList_inj.1 (by rw [e0]; rfl), sec_ok fun x hx => ?_⟩
  simp only [List.mem_cons, List.not_mem_nil, or_false] at hx
  have m0 : IntKind.min .u8 = 0 := rfl
  have m1 : IntKind.max .u8 = 255 := rfl
  rw [m0] at b0 b1 b2 b3 b4 b5 b6 b7 b8 b9 b10 b11 b12 b13 b14 b15
  rw [m1] at d0 d1 d2 d3 d4 d5 d6 d7 d8 d9 d10 d11 d12 d13 d14 d15
  omega
theorem sec_of {cs : Array Value} (h : Fits (List.replicate 16 (.int .u8)) cs.toList) : ∃ f, cs = secV f ∧ SecOk f := sec_of' h
theorem ev_of {cs : List Value} (h : Fits evKs cs) : ∃ x : Evt, cs = evLay.row x ∧ EvOk x := by
  have h' : Fits (.bool :: (List.replicate 16 (.int .u8) ++ [.int .i64, .int .i64])) cs := h
  obtain ⟨_, l, rfl, ⟨b, rfl⟩, h1⟩ := fits_cons h'
  obtain ⟨h2, h3⟩ := h1.split
  obtain ⟨f, hf, hok⟩ := sec_of' (cs := (l.take 16).toArray) (by simpa using h2)
  obtain ⟨_, _, e2, ⟨a, rfl, a1, a2⟩, h4⟩ := fits_cons (k := .int .i64) (ks := [.int .i64]) h3
  obtain ⟨_, _, rfl, ⟨t, rfl, t1, t2⟩, h5⟩ := fits_cons (k := .int .i64) (ks := []) h4
  cases fits_nil h5
  have hl : l = (secV f).toList ++ [.int .i64 a, .int .i64 t] := by
    rw [← hf, ← e2]
    simp
  exact ⟨⟨b, f, a, t⟩, by rw [hl]; rfl, hok, ⟨a1, a2⟩, ⟨t1, t2⟩⟩
theorem evs_list {W : World} {xp : Option Addr} {l : Nat} {g : Nat → List Value} (h : Sl W 19 xp l g) (hf : ∀ i, i < l → Fits evKs (g i)) : ∃ evs : List Evt, SlL evLay W xp l evs ∧ ∀ x ∈ evs, EvOk x := slL_ex h rfl hf fun cs hc => ev_of hc
end Go.Proofs
