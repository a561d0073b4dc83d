/-
  DEFERRED CALLS AT A FUNCTION's END, AND A LOCK's CALLS. No program is named here.
-/
import Derived.Test.YthhimblbnnafkaaGreatLib
import Derived.Defers
import Derived.Conc.MuLone
namespace Go.Ev
open Go
set_option linter.unusedSimpArgs false
set_option linter.unusedVariables false

/-- a deferred call that returns -/
def CallDV (P : Program) (f : FuncId) (args : Array Value) (w : World) (K : World → Prop) : Prop :=
  CallsD P f args .returning w fun e u w' => (∃ v, e = .returned v) ∧ u = .returning ∧ K w'
def leav (P : Program) (R : World → Prop) : List Deferred → World → Prop
  | [], w => R w
  | d :: ds, w => match d.target with
    | .fn (.func f) ca => cond (okCall P f) (CallDV P f (d.args.toList ++ ca.toList).toArray w fun w => leav P R ds w) False
    | _ => False
def retQD (P : Program) (fn : Func) (R : Value → World → Prop) : Exit → Env → World → Prop
  | .normal, e, w => leav P (fun w => rets P fn.results.toList e w fun vs => R (one vs) w) e.d w
  | .ret, e, w => leav P (fun w => rets P fn.results.toList e w fun vs => R (one vs) w) e.d w
  | _, _, _ => False
section
variable {P : Program} {A : Ann} {n : Nat}
theorem leaves_of {fn : Func} {tmps : Array Value} {R : World → Prop} {R' : Ending → World → Prop} (hR : ∀ w, R w → ∃ v, (results fn tmps).run P w = .ok v w ∧ R' (.returned v) w) :
    ∀ (ds : List Deferred) (w : World), leav P R ds w → Leaves P fn tmps R' ds .returning w
  | [], w, h => hR w h
  | d :: ds, w, h => by
    obtain ⟨t, as⟩ := d
    unfold leav at h
    split at h
    · rename_i f ca ht
      simp only at ht
      subst ht
      cases hk : okCall P f
      · rw [hk] at h; exact h.elim
      · rw [hk] at h
        simp only [cond_true] at h
        have e1 : (as.toList ++ ca.toList).toArray = as ++ ca := by apply Array.ext'; simp
        rw [e1] at h
        refine ⟨by simp, .func f, ca, f, as ++ ca, rfl, ?_, ?_⟩
        · simp only [invoke]
          exact okCall_run hk _ _
        · refine CallsD.mono h fun e u' w' hh => ?_
          obtain ⟨⟨v, rfl⟩, rfl, hK⟩ := hh
          exact leaves_of hR ds w' hK
    · exact h.elim
theorem results_ofD {fn : Func} {e : Env} {a : Act} {w : World} {R : Value → World → Prop} (hr : Rel n e a) (h : rets P fn.results.toList e w fun vs => R (one vs) w) :
    ∃ v, (results fn a.tmps).run P w = .ok v w ∧ R v w := by
  obtain ⟨vs, hvs, h⟩ := rets_of _ hr h
  refine ⟨_, ?_, h⟩
  have e1 : results fn a.tmps = (do let vs ← fn.results.mapM (resOf a.tmps); pure (if h : vs.size = 1 then vs[0] else .tuple vs)) := rfl
  rw [e1, ← Array.toArray_toList (xs := fn.results), List.mapM_toArray]
  simp only [Sem.run_bind, map_eq_pure_bind, hvs, Result.andThen_ok, Sem.run_pure]
  congr 1
  match vs with
  | [] => rfl
  | [v] => rfl
  | _ :: _ :: _ => simp [one]
theorem calls_of_denD {f : FuncId} {fn : Func} {c : Code} {args : List Value} {w : World} {R : Value → World → Prop} (A : Ann) (hm : P.follows .mixedOrders = true)
    (hf : P.funcs[f]? = some fn) (hb : fn.body = some c) (hargs : Nat.ble args.length fn.ntmps = true) (h : den P A fn.ntmps c (retQD P fn R) (env0 args) w) : CallV P f args.toArray w R := by
  have hle : args.length ≤ fn.ntmps := Nat.le_of_ble_eq_true hargs
  refine calls_of_wp_defers hf hb ?_
  have hr : Rel fn.ntmps (env0 args) { tmps := args.toArray ++ Array.replicate (fn.ntmps - args.toArray.size) undef, defers := [] } := by
    refine ⟨by simp; omega, fun i => ?_, rfl⟩
    simp only [env0, SV.v, Array.getD_eq_getD_getElem?, Array.getElem?_append, List.size_toArray, List.getElem?_toArray, Array.getElem?_replicate]
    by_cases hi : i < args.length
    · simp [hi]
    · rw [if_neg hi, List.getElem?_eq_none (by omega)]
      split <;> rfl
  refine wp_mono (den_of hm c _ _ _ w (codeOps c) _ (fun _ h => h) (Off.refl _ _) hr h) fun q a' w' ⟨e', hr', _, h'⟩ => ?_
  cases q <;> first
    | exact h'.elim
    | (show Leaves P fn a'.tmps _ a'.defers .returning w'
       rw [hr'.d]
       exact leaves_of (fun w hw => by
         obtain ⟨v, hv, hR⟩ := results_ofD hr' hw
         exact ⟨v, hv, v, rfl, hR⟩) _ _ h')
theorem calls_of_FD {f : FuncId} {fn : Func} {args : List Value} {w : World} {R : Value → World → Prop} {F : Prop} (A : Ann) (hm : P.follows .mixedOrders = true)
    (hf : P.funcs[f]? = some fn) (hb : fn.body.isSome = true) (hargs : Nat.ble args.length fn.ntmps = true) (hF : den P A fn.ntmps (bodyOf fn) (retQD P fn R) (env0 args) w = F) (h : F) :
    CallV P f args.toArray w R := by
  subst hF
  cases hc : fn.body with
  | none => rw [hc] at hb; cases hb
  | some c =>
    have he : bodyOf fn = c := by unfold bodyOf; rw [hc]
    rw [he] at h
    exact calls_of_denD A hm hf hc hargs h
open Go.Conc.Locks in
theorem mu_lock {L : MuLink} (H : MuLib P L) {b o : Nat} {c : Array Value} {t : TypeId} {w : World} {R : Value → World → Prop} (h : Has w b (.cells c t (0, 0))) (hc : c[o]? = some (.int .i32 0))
    (hR : R (.tuple #[]) (w.upd b (.cells (c.setIfInBounds o (.int .i32 1)) t (0, 0)))) : CallV P L.lock #[.pointer (some ⟨b, o, none⟩)] w R := by
  refine Calls.mono (Go.MuLone.lock_free H ⟨b, o, none⟩ w (by rw [cell_of h]; exact hc) (frozen_of h)) fun e w' hh => ?_
  obtain ⟨rfl, rfl⟩ := hh
  refine ⟨_, rfl, ?_⟩
  rw [setCell_upd h]
  exact hR
open Go.Conc.Locks in
theorem mu_unlock {L : MuLink} (H : MuLib P L) {b o : Nat} {c : Array Value} {t : TypeId} {w : World} {K : World → Prop} (h : Has w b (.cells c t (0, 0))) (hc : c[o]? = some (.int .i32 1))
    (hK : K (w.upd b (.cells (c.setIfInBounds o (.int .i32 0)) t (0, 0)))) : CallDV P L.unlock #[.pointer (some ⟨b, o, none⟩)] w K := by
  refine CallsD.mono (Go.MuLone.unlock_deferred H ⟨b, o, none⟩ .returning w (by rw [cell_of h]; exact hc) (frozen_of h)) fun e u w' hh => ?_
  obtain ⟨rfl, rfl, rfl⟩ := hh
  refine ⟨⟨_, rfl⟩, rfl, ?_⟩
  rw [setCell_upd h]
  exact hK
end
end Go.Ev
