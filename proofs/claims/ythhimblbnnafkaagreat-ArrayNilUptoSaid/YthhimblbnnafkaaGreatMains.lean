/-
  The power: atomic numbers, Mains and its calls.
-/
import Derived.Test.YthhimblbnnafkaaGreatRow
import Derived.Test.YthhimblbnnafkaaGreatFMains
import Derived.Laws.Externs
import Derived.Conc.AtomicLaws2
import Derived.Laws.Small
namespace Go.Proofs
open Go Go.Ev
set_option linter.unusedSimpArgs false
set_option linter.unusedVariables false
set_option maxRecDepth 100000

section atomic
variable {w : World} {b o : Nat} {c : Array Value} {t : TypeId} {R : Value → World → Prop}
theorem run_aload {k : IntKind} {v : Int} (hc : w.cell? ⟨b, o, none⟩ = some (.int k v)) : (Extern.Atomic.loadT (.int k) #[.pointer (some ⟨b, o, none⟩)]).run Tryz.prog w = .ok (.int k v) w := by
  change Sem.run Tryz.prog (do
    let a' ← asAddr (.pointer (some ⟨b, o, none⟩))
    Extern.Atomic.read (.int k) a') w = _
  simp [Extern.Atomic.read, asAddr, hc, Result.andThen]
theorem run_astore {k k' : IntKind} {u v : Int} (hc : w.cell? ⟨b, o, none⟩ = some (.int k' u)) (hz : w.frozen? ⟨b, o, none⟩ = false) : (Extern.Atomic.storeT #[.pointer (some ⟨b, o, none⟩), .int k v]).run Tryz.prog w = .ok (.tuple #[]) (w.setCell ⟨b, o, none⟩ (.int k v)) := by
  change Sem.run Tryz.prog (do
    let a' ← asAddr (.pointer (some ⟨b, o, none⟩))
    store a' (.int k v) .atomic
    pure Extern.Atomic.none_) w = _
  simp [asAddr, hc, hz, run_store Tryz.prog w ⟨b, o, none⟩ (.int k v) .atomic rfl, Result.andThen, Extern.Atomic.none_]
theorem a_BLoad {v : Int} (h : Has w b (.cells c t (0, 0))) (hv : c[o]? = some (.int .u32 v)) (hK : R (.bool (v != 0)) w) : CallV Tryz.prog 126 #[.pointer (some ⟨b, o, none⟩)] w R := by
  apply C_BLoad
  unfold F_BLoad
  refine ⟨.int .u32 v, w, ?_, ?_⟩
  · rw [run_callFunc_extern Tryz.func197 (by kernel_rfl) (by kernel_rfl) (by kernel_rfl) (e := Extern.Atomic.loadT (.int .u32)) (by kernel_rfl), run_aload (by rw [cell_of h]; exact hv)]
    rfl
  · exact OpI_int.2 (Ret_nil.2 hK)
theorem a_ILoad {v : Int} (h : Has w b (.cells c t (0, 0))) (hv : c[o]? = some (.int .i64 v)) (hK : R (.int .i64 v) w) : CallV Tryz.prog 127 #[.pointer (some ⟨b, o, none⟩)] w R := by
  apply C_ILoad
  unfold F_ILoad
  refine ⟨.int .i64 v, w, ?_, ?_⟩
  · rw [run_callFunc_extern Tryz.func198 (by kernel_rfl) (by kernel_rfl) (by kernel_rfl) (e := Extern.Atomic.loadT (.int .i64)) (by kernel_rfl), run_aload (by rw [cell_of h]; exact hv)]
    rfl
  · exact OpI_int.2 (Ret_nil.2 hK)
theorem a_IStore {u v : Int} (h : Has w b (.cells c t (0, 0))) (hv : c[o]? = some (.int .i64 u)) (hK : R (.tuple #[]) (w.upd b (.cells (c.setIfInBounds o (.int .i64 v)) t (0, 0)))) : CallV Tryz.prog 134 #[.pointer (some ⟨b, o, none⟩), .int .i64 v] w R := by
  apply C_IStore
  unfold F_IStore
  refine ⟨.tuple #[], _, ?_, Ret_nil.2 hK⟩
  rw [run_callFunc_extern Tryz.func204 (by kernel_rfl) (by kernel_rfl) (by kernel_rfl) (e := Extern.Atomic.storeT) (by kernel_rfl), run_astore (u := u) (k' := .i64) (by rw [cell_of h]; exact hv) (frozen_of h), setCell_upd h]
  rfl
theorem a_BStore {u : Int} {v : Bool} (h : Has w b (.cells c t (0, 0))) (hv : c[o]? = some (.int .u32 u)) (hK : ∀ d, R (.tuple #[]) ((w.dr d).upd b (.cells (c.setIfInBounds o (.int .u32 (if v = true then 1 else 0))) t (0, 0)))) : CallV Tryz.prog 135 #[.pointer (some ⟨b, o, none⟩), .bool v] w R := by
  apply C_BStore
  unfold F_BStore
  intro d
  refine ⟨fun _ => True, trivial, ?_⟩
  apply C_atomic_b32
  unfold F_atomic_b32
  have go : ∀ n : Int, n = (if v = true then 1 else 0) → OpI .u32 (.int .u32 n) fun n => Hld True (DoN Tryz.prog (callFunc 205 #[.pointer (some ⟨b, o, none⟩), .int .u32 n]) (w.dr d) fun v1 w => Hld True (Ret [] (R (.tuple #[]) w))) := by
    intro n hn
    refine OpI_int.2 ⟨trivial, .tuple #[], _, ?_, trivial, Ret_nil.2 (hK d)⟩
    rw [run_callFunc_extern Tryz.func205 (by kernel_rfl) (by kernel_rfl) (by kernel_rfl) (e := Extern.Atomic.storeT) (by kernel_rfl), run_astore (u := u) (k' := .u32) (by rw [cell_of (h.dr d)]; exact hv) (frozen_of (h.dr d)), setCell_upd (h.dr d), hn]
    rfl
  refine Cb_of (fun hc => Ret_nil.2 (go 1 (by rw [hc]; rfl))) (fun hc => Ret_nil.2 (go 0 (by rw [hc]; rfl)))
theorem a_IAdd {u v : Int} (h : Has w b (.cells c t (0, 0))) (hv : c[o]? = some (.int .i64 u)) (hK : R (.int .i64 (IntKind.wrap .i64 (u + v))) (w.upd b (.cells (c.setIfInBounds o (.int .i64 (IntKind.wrap .i64 (u + v)))) t (0, 0)))) : CallV Tryz.prog 247 #[.pointer (some ⟨b, o, none⟩), .int .i64 v] w R := by
  apply C_IAdd
  unfold F_IAdd
  refine ⟨.int .i64 (IntKind.wrap .i64 (u + v)), _, ?_, OpI_int.2 (Ret_nil.2 hK)⟩
  rw [run_callFunc_extern Tryz.func273 (by kernel_rfl) (by kernel_rfl) (by kernel_rfl) (e := Extern.Atomic.update (Op.intArith .add) .i64 true) (by kernel_rfl), Conc.run_add_entry (by rw [cell_of h]; exact hv) (frozen_of h), setCell_upd h]
  rfl
end atomic

/-! ### Mains -/
/-- the power: is it on; the steps that are left to a cut and 1, or 0; the steps so far -/
structure Pow where
  on : Bool
  left : Int
  steps : Int
def maC (p : Pow) : Array Value := #[.int .u32 (if p.on = true then 0 else 1), .int .i64 p.left, .int .i64 p.steps]
def MaAt (w : World) (m : Nat) (p : Pow) : Prop := Has w m (.cells (maC p) 209 (0, 0))
def stepP (p : Pow) : Bool × Pow :=
  if p.on = true then (if p.left = 0 then (true, { p with steps := IntKind.wrap .i64 (p.steps + 1) }) else if p.left = 1 then (false, { p with on := false, left := 0 })
    else (true, { p with left := IntKind.wrap .i64 (p.left - 1), steps := IntKind.wrap .i64 (p.steps + 1) })) else (false, p)
section mains
variable {w : World} {m : Nat} {p : Pow} {R : Value → World → Prop}
theorem ma_On (h : MaAt w m p) (hK : R (.bool p.on) w) : CallV Tryz.prog 44 #[.pointer (some ⟨m, 0, none⟩)] w R := by
  apply C_disk_Mains_On
  unfold F_disk_Mains_On
  refine a_BLoad h rfl ?_
  rw [OpB_bool, Ret_nil]
  have : (!((if p.on = true then (0 : Int) else 1) != 0)) = p.on := by cases p.on <;> rfl
  rw [this]; exact hK
theorem ma_Steps (h : MaAt w m p) (hK : R (.int .i64 p.steps) w) : CallV Tryz.prog 45 #[.pointer (some ⟨m, 0, none⟩)] w R := by
  apply C_disk_Mains_Steps
  unfold F_disk_Mains_Steps
  refine a_ILoad h rfl ?_
  rw [OpI_int, Ret_nil]; exact hK
theorem ma_Step (h : MaAt w m p) (hK : ∀ w', MaAt w' m (stepP p).2 → Keep (fun k => k = m) w w' → w'.heap.size = w.heap.size → R (.bool (stepP p).1) w') : CallV Tryz.prog 195 #[.pointer (some ⟨m, 0, none⟩)] w R := by
  apply C_disk_Mains_Step
  unfold F_disk_Mains_Step
  refine ma_On h ?_
  refine OpB_bool.2 ?_
  obtain ⟨on, left, steps⟩ := p
  cases on
  · refine (Cb_true (q := _)).2 ?_
    exact Ret_nil.2 (hK w h (Keep.refl _ _) rfl)
  · refine (Cb_false (p := _)).2 ?_
    refine a_ILoad h rfl ?_
    refine OpI_int.2 ?_
    refine Cb_of (fun h0 => ?_) (fun h0 => ?_)
    · have h0 : left = 0 := by simpa using h0
      subst h0
      refine a_IAdd h rfl ?_
      exact OpI_int.2 (Ret_nil.2 (hK _ (h.upd_same _) (Keep.one _ _ _) (by simp)))
    · have h0 : left ≠ 0 := by simpa using h0
      refine Cb_of (fun h1 => ?_) (fun h1 => ?_)
      · have h1 : left = 1 := by simpa using h1
        subst h1
        refine a_IStore h rfl ?_
        refine a_BStore (h.upd_same _) rfl fun d => ?_
        refine Ret_nil.2 (hK _ ?_ ?_ (by simp))
        · exact ((h.upd_same _).dr d).upd_same _
        · exact (((Keep.one w m _).dr d).upd (fun _ => rfl) _)
      · have h1 : left ≠ 1 := by simpa using h1
        have e : stepP ⟨true, left, steps⟩ = (true, ⟨true, IntKind.wrap .i64 (left - 1), IntKind.wrap .i64 (steps + 1)⟩) := by
          unfold stepP
          rw [if_pos rfl, if_neg h0, if_neg h1]
        rw [e] at hK
        refine a_IStore h rfl ?_
        refine a_IAdd (h.upd_same _) rfl ?_
        refine OpI_int.2 (Ret_nil.2 (hK _ ?_ ?_ (by simp)))
        · exact (h.upd_same _).upd_same _
        · exact (Keep.one w m _).upd (fun _ => rfl) _
theorem ma_Cut (h : MaAt w m p) {n : Int} (h0 : 0 ≤ n) (h1 : n ≤ 1000000) (hon : p.on = true) (hK : ∀ w', MaAt w' m { p with left := n + 1 } → Keep (fun k => k = m) w w' → w'.heap.size = w.heap.size → R (.int .i64 0) w') : CallV Tryz.prog 59 #[.pointer (some ⟨m, 0, none⟩), .int .i64 n] w R := by
  apply C_disk_Mains_Cut
  unfold F_disk_Mains_Cut
  obtain ⟨on, left, steps⟩ := p
  cases hon
  refine ⟨rfl, rfl, ?_⟩
  refine Cb_of (fun hn => by simp only [decide_eq_true_eq] at hn; omega) (fun _ => ?_)
  refine a_BLoad h rfl ?_
  refine OpB_bool.2 ?_
  refine (Cb_false (p := _)).2 ?_
  refine DoQ_of (v := .int .i64 n) (fun d => ?_) ?_
  · rw [run_min_int2, if_neg (by omega)]
  refine OpI_int.2 ?_
  have e : IntKind.wrap .i64 (n + 1) = n + 1 := wrapI (by omega) (by omega)
  rw [e]
  refine a_IStore h rfl ?_
  exact Ret_nil.2 (hK _ (h.upd_same _) (Keep.one _ _ _) (by simp))
theorem ma_Restore (h : MaAt w m p) (hK : ∀ w', MaAt w' m ⟨true, 0, p.steps⟩ → Keep (fun k => k = m) w w' → w'.heap.size = w.heap.size → R (.tuple #[]) w') : CallV Tryz.prog 60 #[.pointer (some ⟨m, 0, none⟩)] w R := by
  apply C_disk_Mains_Restore
  unfold F_disk_Mains_Restore
  obtain ⟨on, left, steps⟩ := p
  refine a_BStore h rfl fun d => ?_
  refine a_IStore ((h.dr d).upd_same _) rfl ?_
  refine Ret_nil.2 (hK _ ?_ ?_ (by simp))
  · exact ((h.dr d).upd_same _).upd_same _
  · exact (((Keep.refl (fun k => k = m) w).dr d).upd (fun _ => rfl) _).upd (fun _ => rfl) _
theorem ma_New (hK : ∀ b w', b = w.heap.size → MaAt w' b ⟨true, 0, 0⟩ → Keep (fun _ => False) w w' → w'.heap.size = w.heap.size + 1 → R (.pointer (some ⟨b, 0, none⟩)) w') : CallV Tryz.prog 52 #[] w R := by
  apply C_disk_NewMains
  unfold F_disk_NewMains
  refine DoQ_of (v := .agg (maC ⟨true, 0, 0⟩)) (fun d => run_build _ _ _ _ (by kernel_rfl)) ?_
  refine OpA_agg.2 ⟨rfl, ?_⟩
  rw [Alc_iff]
  exact Ret_nil.2 (hK _ _ rfl (Has.new _ _) (Keep.new _ _ _) (by simp))
end mains
end Go.Proofs
