/-
  SECTORS AS VALUES: sixteen bytes.
-/
import Derived.Test.YthhimblbnnafkaaGreatMap
import Derived.Test.YthhimblbnnafkaaGreatEq
import Derived.Laws.Tables
import Derived.Laws.MakeOwn
import Derived.Test.YthhimblbnnafkaaGreatChecked
namespace Go.Proofs
open Go Go.Ev
set_option linter.unusedSimpArgs false
set_option linter.unusedVariables false
set_option maxRecDepth 100000

abbrev Sec := Fin 16 → Int
/-- the first bytes as given, the others 0 -/
def sec (l : List Int) : Sec := fun i => (l[i.val]?).getD 0
def secV (f : Sec) : Array Value :=
  #[.int .u8 (f 0), .int .u8 (f 1), .int .u8 (f 2), .int .u8 (f 3), .int .u8 (f 4), .int .u8 (f 5), .int .u8 (f 6), .int .u8 (f 7),
    .int .u8 (f 8), .int .u8 (f 9), .int .u8 (f 10), .int .u8 (f 11), .int .u8 (f 12), .int .u8 (f 13), .int .u8 (f 14), .int .u8 (f 15)]
@[simp] theorem size_secV (f : Sec) : (secV f).size = 16 := rfl
def SecOk (f : Sec) : Prop := ∀ i, 0 ≤ f i ∧ f i ≤ 255
theorem secV_inj {f g : Sec} (h : secV f = secV g) : f = g := by
  simp only [secV, Array.mk.injEq, List.cons.injEq, Value.int.injEq, true_and, and_true] at h
  obtain ⟨h0, h1, h2, h3, h4, h5, h6, h7, h8, h9, h10, h11, h12, h13, h14, h15⟩ := h
  funext i
  match i with
  | ⟨0, _⟩ => exact h0
  | ⟨1, _⟩ => exact h1
  | ⟨2, _⟩ => exact h2
  | ⟨3, _⟩ => exact h3
  | ⟨4, _⟩ => exact h4
  | ⟨5, _⟩ => exact h5
  | ⟨6, _⟩ => exact h6
  | ⟨7, _⟩ => exact h7
  | ⟨8, _⟩ => exact h8
  | ⟨9, _⟩ => exact h9
  | ⟨10, _⟩ => exact h10
  | ⟨11, _⟩ => exact h11
  | ⟨12, _⟩ => exact h12
  | ⟨13, _⟩ => exact h13
  | ⟨14, _⟩ => exact h14
  | ⟨15, _⟩ => exact h15
  | ⟨n + 16, hn⟩ => exact absurd hn (by omega)
theorem one_secV (f : Sec) : ∀ v ∈ (secV f).toList, oneV v = true := by
  intro v hv
  simp only [secV, List.mem_cons, List.not_mem_nil, or_false] at hv
  rcases hv with rfl | rfl | rfl | rfl | rfl | rfl | rfl | rfl | rfl | rfl | rfl | rfl | rfl | rfl | rfl | rfl <;> rfl
theorem fits_secV {f : Sec} (h : SecOk f) : Fits (List.replicate 16 (.int .u8)) (secV f).toList := by
  have k : ∀ i, CK.ok (.int .u8) (.int .u8 (f i)) := fun i => ⟨_, rfl, by have := h i; exact this.1, by have := h i; exact this.2⟩
  exact ⟨k 0, k 1, k 2, k 3, k 4, k 5, k 6, k 7, k 8, k 9, k 10, k 11, k 12, k 13, k 14, k 15, trivial⟩
theorem sec_ok {l : List Int} (h : ∀ x ∈ l, 0 ≤ x ∧ x ≤ 255) : SecOk (sec l) := by
  intro i
  unfold sec
  cases hl : l[i.val]? with
  | none => simp
  | some x => exact h x (List.mem_of_getElem? hl)
/-- '==' and '!=' of two sectors -/
theorem EqB_sec {x y : Operand} {f g : Sec} {C : World → Prop} {K : Bool → Prop} (hf : SecOk f) (hg : SecOk g) (hK : ∀ r : Bool, (r = true ↔ f = g) → K r) :
    EqB Tryz.prog .eql 37 x y (.agg (secV f)) (.agg (secV g)) C K :=
  EqB_flat (ks := List.replicate 16 (.int .u8)) (by kernel_rfl) (by kernel_rfl) (by kernel_rfl) (by kernel_rfl) (by kernel_rfl) (fits_secV hf) (fits_secV hg)
    fun r hr => hK r (hr.trans ⟨secV_inj, fun e => by rw [e]⟩)
theorem EqB_sec_ne {x y : Operand} {f g : Sec} {C : World → Prop} {K : Bool → Prop} (hf : SecOk f) (hg : SecOk g) (hK : ∀ r : Bool, (r = true ↔ f ≠ g) → K r) :
    EqB Tryz.prog .neq 37 x y (.agg (secV f)) (.agg (secV g)) C K :=
  EqB_flat_ne (ks := List.replicate 16 (.int .u8)) (by kernel_rfl) (by kernel_rfl) (by kernel_rfl) (by kernel_rfl) (by kernel_rfl) (fits_secV hf) (fits_secV hg)
    fun r hr => hK r (hr.trans ⟨fun h e => h (by rw [e]), fun h e => h (secV_inj e)⟩)
theorem madeCells_one (z : Value) (n : Nat) : madeCells #[z] n = ofF n fun _ => z := by
  unfold madeCells ofF
  apply Array.ext_getElem?
  intro i
  by_cases hi : i < n <;> simp [Nat.mod_one, hi]
theorem zc_sec : zc Tryz.prog 37 = secV (sec []) := by kernel_rfl
theorem bld_sec0 (w : World) : (Instr.build 37 #[]).run Tryz.prog w = .ok (.agg (secV (sec []))) w := run_build _ _ _ _ (by kernel_rfl)
theorem bld_sec1 (a : Int) (w : World) : (Instr.build 37 #[(0, .int .u8 a)]).run Tryz.prog w = .ok (.agg (secV (sec [a]))) w := run_build _ _ _ _ (by kernel_rfl)
theorem bld_sec2 (a b : Int) (w : World) : (Instr.build 37 #[(0, .int .u8 a), (1, .int .u8 b)]).run Tryz.prog w = .ok (.agg (secV (sec [a, b]))) w := run_build _ _ _ _ (by kernel_rfl)
end Go.Proofs
