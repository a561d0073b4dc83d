/-
  No cell of these rows narrows 'for every input' (looked for: loops, veiled, ifaces, maps, wideKeys, modest, calm, conditions, laid).
  DERIVED. THE GIVEN ROWS OF THIS SEAT. 9 by the template 'for every input the law returns true; each argument reads behind the call as it read before'; 0 by the template 'total and deterministic' (their statements: YthhimblbnnafkaaGreatTotals.lean).
  GIVEN WITH THE SEED: the statements are not yours to turn. If you find one false, say at which input.
  Laid BY PROGRAM, IN A SANDBOX (cutbox-rows.mjs): the forced cells as the released guide's own fill.sh prints them over the translation b3cfdb3b311ab563… (all of the seat's roots in one cut). By AI agents, Wed Nov 11 2026. No macro, syntax, notation, axiom, sorry.
-/
import Derived.Test.YthhimblbnnafkaaGreatChecked
import GoSem.Claim
import GoSem.ClaimJoined
import GoSem.ClaimMapViews
import Derived.JoinedTies
import Derived.KernelRfl
namespace Go.Proofs.YthhimblbnnafkaaGreat
/- THE CELL 'sum', in the pinned program and in every row, IS THE sha256 OF THE DUMP (.gsa) THAT YthhimblbnnafkaaGreatProg.lean LOADS. Nothing in Lean hashes anything: it is a label: what it is worth is what the hold of that sum in a sandbox is worth. -/
noncomputable def Tryz.pinned : Pinned := { name := "ythhimblbnnafkaagreat", sum := "b3cfdb3b311ab563ae7828a6e380ad0db11530600d462a83935108c67d30ef68", checked := Tryz.checked }
namespace Rows
def none {H : Type} : Left H := { results := [], args := [] }

/-- 'ravelintop.WholeDrained': WHATEVER THE INPUT: true; the input reads as it did. -/
def wholeDrainedSpec : ChangeSpec := { name := "wholeDrained", fn := fun _ => fun
  | [d1, d2, d3, d4, d5, d6] => { results := [.lit (.bool true)], args := [d1, d2, d3, d4, d5, d6] }
  | _ => none }
def wholeDrainedRow : OpenClaim := { program := "ythhimblbnnafkaagreat", sum := "b3cfdb3b311ab563ae7828a6e380ad0db11530600d462a83935108c67d30ef68", func := "ravelin/ravelintop.WholeDrained", spec := "wholeDrained", inPlace := ["sync/atomic.LoadUint32", "sync/atomic.LoadInt64", "sync/atomic.StoreInt64", "sync/atomic.StoreUint32", "sync/atomic.AddInt64", "(*internal/sync.Mutex).Lock", "internal/race.Disable", "sync/atomic.CompareAndSwapInt32", "internal/race.Enable", "internal/race.Acquire", "(*internal/sync.Mutex).lockSlow", "internal/sync.runtime_canSpin", "internal/sync.runtime_doSpin", "internal/sync.throw", "internal/sync.runtime_nanotime", "internal/sync.runtime_SemacquireMutex", "sync/atomic.AddInt32", "(*internal/sync.Mutex).Unlock", "internal/race.ReleaseMerge", "(*internal/sync.Mutex).unlockSlow", "internal/sync.fatal", "internal/sync.runtime_Semrelease"], unfollowed := true, recurses := true, apart := false }
def WholeDrainedSaid : Prop := wholeDrainedRow.holds Tryz.pinned (OpenSpec.ofChange wholeDrainedSpec)

/-- ITS FALSE NEIGHBOUR: 'it returns false'. Refute it at one input. -/
def wholeDrainedWrong : ChangeSpec := { name := "wholeDrained", fn := fun _ => fun
  | [d1, d2, d3, d4, d5, d6] => { results := [.lit (.bool false)], args := [d1, d2, d3, d4, d5, d6] }
  | _ => none }
def WholeDrainedWrongFalsely : Prop := wholeDrainedRow.holds Tryz.pinned (OpenSpec.ofChange wholeDrainedWrong)

/-- 'ravelintop.WholeTakeover': WHATEVER THE INPUT: true; the input reads as it did. -/
def wholeTakeoverSpec : ChangeSpec := { name := "wholeTakeover", fn := fun _ => fun
  | [d1, d2, d3, d4, d5, d6, d7] => { results := [.lit (.bool true)], args := [d1, d2, d3, d4, d5, d6, d7] }
  | _ => none }
def wholeTakeoverRow : OpenClaim := { program := "ythhimblbnnafkaagreat", sum := "b3cfdb3b311ab563ae7828a6e380ad0db11530600d462a83935108c67d30ef68", func := "ravelin/ravelintop.WholeTakeover", spec := "wholeTakeover", inPlace := ["sync/atomic.LoadUint32", "sync/atomic.LoadInt64", "sync/atomic.StoreInt64", "sync/atomic.StoreUint32", "sync/atomic.AddInt64", "(*internal/sync.Mutex).Lock", "internal/race.Disable", "sync/atomic.CompareAndSwapInt32", "internal/race.Enable", "internal/race.Acquire", "(*internal/sync.Mutex).lockSlow", "internal/sync.runtime_canSpin", "internal/sync.runtime_doSpin", "internal/sync.throw", "internal/sync.runtime_nanotime", "internal/sync.runtime_SemacquireMutex", "sync/atomic.AddInt32", "(*internal/sync.Mutex).Unlock", "internal/race.ReleaseMerge", "(*internal/sync.Mutex).unlockSlow", "internal/sync.fatal", "internal/sync.runtime_Semrelease"], unfollowed := true, recurses := true, apart := false }
def WholeTakeoverSaid : Prop := wholeTakeoverRow.holds Tryz.pinned (OpenSpec.ofChange wholeTakeoverSpec)

/-- ITS FALSE NEIGHBOUR: 'it returns false'. Refute it at one input. -/
def wholeTakeoverWrong : ChangeSpec := { name := "wholeTakeover", fn := fun _ => fun
  | [d1, d2, d3, d4, d5, d6, d7] => { results := [.lit (.bool false)], args := [d1, d2, d3, d4, d5, d6, d7] }
  | _ => none }
def WholeTakeoverWrongFalsely : Prop := wholeTakeoverRow.holds Tryz.pinned (OpenSpec.ofChange wholeTakeoverWrong)

/-- 'ravelinlaw09.StripePlays': WHATEVER THE INPUT: true; the input reads as it did. -/
def stripePlaysSpec : ChangeSpec := { name := "stripePlays", fn := fun _ => fun
  | [d1, d2, d3, d4] => { results := [.lit (.bool true)], args := [d1, d2, d3, d4] }
  | _ => none }
def stripePlaysRow : OpenClaim := { program := "ythhimblbnnafkaagreat", sum := "b3cfdb3b311ab563ae7828a6e380ad0db11530600d462a83935108c67d30ef68", func := "ravelin/ravelinlaw09.StripePlays", spec := "stripePlays", inPlace := ["sync/atomic.LoadUint32", "sync/atomic.LoadInt64", "sync/atomic.StoreInt64", "sync/atomic.StoreUint32", "sync/atomic.AddInt64"], apart := false }
def StripePlaysSaid : Prop := stripePlaysRow.holds Tryz.pinned (OpenSpec.ofChange stripePlaysSpec)

/-- ITS FALSE NEIGHBOUR: 'it returns false'. Refute it at one input. -/
def stripePlaysWrong : ChangeSpec := { name := "stripePlays", fn := fun _ => fun
  | [d1, d2, d3, d4] => { results := [.lit (.bool false)], args := [d1, d2, d3, d4] }
  | _ => none }
def StripePlaysWrongFalsely : Prop := stripePlaysRow.holds Tryz.pinned (OpenSpec.ofChange stripePlaysWrong)

/-- 'ravelintop.WholeCutAt': WHATEVER THE INPUT: true; the input reads as it did. -/
def wholeCutAtSpec : ChangeSpec := { name := "wholeCutAt", fn := fun _ => fun
  | [d1, d2, d3, d4, d5, d6] => { results := [.lit (.bool true)], args := [d1, d2, d3, d4, d5, d6] }
  | _ => none }
def wholeCutAtRow : OpenClaim := { program := "ythhimblbnnafkaagreat", sum := "b3cfdb3b311ab563ae7828a6e380ad0db11530600d462a83935108c67d30ef68", func := "ravelin/ravelintop.WholeCutAt", spec := "wholeCutAt", inPlace := ["sync/atomic.LoadUint32", "sync/atomic.LoadInt64", "sync/atomic.StoreInt64", "sync/atomic.StoreUint32", "sync/atomic.AddInt64", "(*internal/sync.Mutex).Lock", "internal/race.Disable", "sync/atomic.CompareAndSwapInt32", "internal/race.Enable", "internal/race.Acquire", "(*internal/sync.Mutex).lockSlow", "internal/sync.runtime_canSpin", "internal/sync.runtime_doSpin", "internal/sync.throw", "internal/sync.runtime_nanotime", "internal/sync.runtime_SemacquireMutex", "sync/atomic.AddInt32", "(*internal/sync.Mutex).Unlock", "internal/race.ReleaseMerge", "(*internal/sync.Mutex).unlockSlow", "internal/sync.fatal", "internal/sync.runtime_Semrelease"], unfollowed := true, recurses := true, apart := false }
def WholeCutAtSaid : Prop := wholeCutAtRow.holds Tryz.pinned (OpenSpec.ofChange wholeCutAtSpec)

/-- ITS FALSE NEIGHBOUR: 'it returns false'. Refute it at one input. -/
def wholeCutAtWrong : ChangeSpec := { name := "wholeCutAt", fn := fun _ => fun
  | [d1, d2, d3, d4, d5, d6] => { results := [.lit (.bool false)], args := [d1, d2, d3, d4, d5, d6] }
  | _ => none }
def WholeCutAtWrongFalsely : Prop := wholeCutAtRow.holds Tryz.pinned (OpenSpec.ofChange wholeCutAtWrong)

/-- 'ravelinlaw10.IntentWhole': WHATEVER THE INPUT: true; the input reads as it did. -/
def intentWholeSpec : ChangeSpec := { name := "intentWhole", fn := fun _ => fun
  | [d1, d2, d3, d4, d5, d6, d7, d8, d9] => { results := [.lit (.bool true)], args := [d1, d2, d3, d4, d5, d6, d7, d8, d9] }
  | _ => none }
def intentWholeRow : OpenClaim := { program := "ythhimblbnnafkaagreat", sum := "b3cfdb3b311ab563ae7828a6e380ad0db11530600d462a83935108c67d30ef68", func := "ravelin/ravelinlaw10.IntentWhole", spec := "intentWhole", inPlace := ["sync/atomic.LoadUint32", "sync/atomic.LoadInt64", "sync/atomic.StoreInt64", "sync/atomic.StoreUint32", "sync/atomic.AddInt64"], recurses := true, apart := false }
def IntentWholeSaid : Prop := intentWholeRow.holds Tryz.pinned (OpenSpec.ofChange intentWholeSpec)

/-- ITS FALSE NEIGHBOUR: 'it returns false'. Refute it at one input. -/
def intentWholeWrong : ChangeSpec := { name := "intentWhole", fn := fun _ => fun
  | [d1, d2, d3, d4, d5, d6, d7, d8, d9] => { results := [.lit (.bool false)], args := [d1, d2, d3, d4, d5, d6, d7, d8, d9] }
  | _ => none }
def IntentWholeWrongFalsely : Prop := intentWholeRow.holds Tryz.pinned (OpenSpec.ofChange intentWholeWrong)

/-- 'ravelinlaw20.ArrayForms': WHATEVER THE INPUT: true; the input reads as it did. -/
def arrayFormsSpec : ChangeSpec := { name := "arrayForms", fn := fun _ => fun
  | [d1, d2] => { results := [.lit (.bool true)], args := [d1, d2] }
  | _ => none }
def arrayFormsRow : OpenClaim := { program := "ythhimblbnnafkaagreat", sum := "b3cfdb3b311ab563ae7828a6e380ad0db11530600d462a83935108c67d30ef68", func := "ravelin/ravelinlaw20.ArrayForms", spec := "arrayForms", inPlace := ["sync/atomic.LoadUint32", "sync/atomic.LoadInt64", "sync/atomic.StoreInt64", "sync/atomic.StoreUint32", "sync/atomic.AddInt64", "(*internal/sync.Mutex).Lock", "internal/race.Disable", "sync/atomic.CompareAndSwapInt32", "internal/race.Enable", "internal/race.Acquire", "(*internal/sync.Mutex).lockSlow", "internal/sync.runtime_canSpin", "internal/sync.runtime_doSpin", "internal/sync.throw", "internal/sync.runtime_nanotime", "internal/sync.runtime_SemacquireMutex", "sync/atomic.AddInt32", "(*internal/sync.Mutex).Unlock", "internal/race.ReleaseMerge", "(*internal/sync.Mutex).unlockSlow", "internal/sync.fatal", "internal/sync.runtime_Semrelease"], unfollowed := true, recurses := true, apart := false }
def ArrayFormsSaid : Prop := arrayFormsRow.holds Tryz.pinned (OpenSpec.ofChange arrayFormsSpec)

/-- ITS FALSE NEIGHBOUR: 'it returns false'. Refute it at one input. -/
def arrayFormsWrong : ChangeSpec := { name := "arrayForms", fn := fun _ => fun
  | [d1, d2] => { results := [.lit (.bool false)], args := [d1, d2] }
  | _ => none }
def ArrayFormsWrongFalsely : Prop := arrayFormsRow.holds Tryz.pinned (OpenSpec.ofChange arrayFormsWrong)

/-- 'ravelinlaw20.ArraySteps': WHATEVER THE INPUT: true; the input reads as it did. -/
def arrayStepsSpec : ChangeSpec := { name := "arraySteps", fn := fun _ => fun
  | [d1, d2, d3, d4, d5] => { results := [.lit (.bool true)], args := [d1, d2, d3, d4, d5] }
  | _ => none }
def arrayStepsRow : OpenClaim := { program := "ythhimblbnnafkaagreat", sum := "b3cfdb3b311ab563ae7828a6e380ad0db11530600d462a83935108c67d30ef68", func := "ravelin/ravelinlaw20.ArraySteps", spec := "arraySteps", inPlace := ["sync/atomic.LoadUint32", "sync/atomic.LoadInt64", "sync/atomic.StoreInt64", "sync/atomic.StoreUint32", "sync/atomic.AddInt64", "(*internal/sync.Mutex).Lock", "internal/race.Disable", "sync/atomic.CompareAndSwapInt32", "internal/race.Enable", "internal/race.Acquire", "(*internal/sync.Mutex).lockSlow", "internal/sync.runtime_canSpin", "internal/sync.runtime_doSpin", "internal/sync.throw", "internal/sync.runtime_nanotime", "internal/sync.runtime_SemacquireMutex", "sync/atomic.AddInt32", "(*internal/sync.Mutex).Unlock", "internal/race.ReleaseMerge", "(*internal/sync.Mutex).unlockSlow", "internal/sync.fatal", "internal/sync.runtime_Semrelease"], unfollowed := true, recurses := true, apart := false }
def ArrayStepsSaid : Prop := arrayStepsRow.holds Tryz.pinned (OpenSpec.ofChange arrayStepsSpec)

/-- ITS FALSE NEIGHBOUR: 'it returns false'. Refute it at one input. -/
def arrayStepsWrong : ChangeSpec := { name := "arraySteps", fn := fun _ => fun
  | [d1, d2, d3, d4, d5] => { results := [.lit (.bool false)], args := [d1, d2, d3, d4, d5] }
  | _ => none }
def ArrayStepsWrongFalsely : Prop := arrayStepsRow.holds Tryz.pinned (OpenSpec.ofChange arrayStepsWrong)

/-- 'ravelinlaw20.ArrayRebuilds': WHATEVER THE INPUT: true; the input reads as it did. -/
def arrayRebuildsSpec : ChangeSpec := { name := "arrayRebuilds", fn := fun _ => fun
  | [d1, d2, d3, d4, d5, d6] => { results := [.lit (.bool true)], args := [d1, d2, d3, d4, d5, d6] }
  | _ => none }
def arrayRebuildsRow : OpenClaim := { program := "ythhimblbnnafkaagreat", sum := "b3cfdb3b311ab563ae7828a6e380ad0db11530600d462a83935108c67d30ef68", func := "ravelin/ravelinlaw20.ArrayRebuilds", spec := "arrayRebuilds", inPlace := ["sync/atomic.LoadUint32", "sync/atomic.LoadInt64", "sync/atomic.StoreInt64", "sync/atomic.StoreUint32", "sync/atomic.AddInt64", "(*internal/sync.Mutex).Lock", "internal/race.Disable", "sync/atomic.CompareAndSwapInt32", "internal/race.Enable", "internal/race.Acquire", "(*internal/sync.Mutex).lockSlow", "internal/sync.runtime_canSpin", "internal/sync.runtime_doSpin", "internal/sync.throw", "internal/sync.runtime_nanotime", "internal/sync.runtime_SemacquireMutex", "sync/atomic.AddInt32", "(*internal/sync.Mutex).Unlock", "internal/race.ReleaseMerge", "(*internal/sync.Mutex).unlockSlow", "internal/sync.fatal", "internal/sync.runtime_Semrelease"], unfollowed := true, recurses := true, apart := false }
def ArrayRebuildsSaid : Prop := arrayRebuildsRow.holds Tryz.pinned (OpenSpec.ofChange arrayRebuildsSpec)

/-- ITS FALSE NEIGHBOUR: 'it returns false'. Refute it at one input. -/
def arrayRebuildsWrong : ChangeSpec := { name := "arrayRebuilds", fn := fun _ => fun
  | [d1, d2, d3, d4, d5, d6] => { results := [.lit (.bool false)], args := [d1, d2, d3, d4, d5, d6] }
  | _ => none }
def ArrayRebuildsWrongFalsely : Prop := arrayRebuildsRow.holds Tryz.pinned (OpenSpec.ofChange arrayRebuildsWrong)

/-- 'ravelinlaw20.ArrayNil': WHATEVER THE INPUT: true; the input reads as it did. -/
def arrayNilSpec : ChangeSpec := { name := "arrayNil", fn := fun _ => fun
  | [d1, d2, d3] => { results := [.lit (.bool true)], args := [d1, d2, d3] }
  | _ => none }
def arrayNilRow : OpenClaim := { program := "ythhimblbnnafkaagreat", sum := "b3cfdb3b311ab563ae7828a6e380ad0db11530600d462a83935108c67d30ef68", func := "ravelin/ravelinlaw20.ArrayNil", spec := "arrayNil", inPlace := ["sync/atomic.LoadUint32", "(*internal/sync.Mutex).Lock", "internal/race.Disable", "sync/atomic.CompareAndSwapInt32", "internal/race.Enable", "internal/race.Acquire", "(*internal/sync.Mutex).lockSlow", "internal/sync.runtime_canSpin", "internal/sync.runtime_doSpin", "internal/sync.throw", "internal/sync.runtime_nanotime", "internal/sync.runtime_SemacquireMutex", "sync/atomic.AddInt32", "(*internal/sync.Mutex).Unlock", "internal/race.ReleaseMerge", "(*internal/sync.Mutex).unlockSlow", "internal/sync.fatal", "internal/sync.runtime_Semrelease", "sync/atomic.LoadInt64", "sync/atomic.StoreInt64", "sync/atomic.StoreUint32", "sync/atomic.AddInt64"], unfollowed := true, recurses := true, apart := false }
def ArrayNilSaid : Prop := arrayNilRow.holds Tryz.pinned (OpenSpec.ofChange arrayNilSpec)

/-- ITS FALSE NEIGHBOUR: 'it returns false'. Refute it at one input. -/
def arrayNilWrong : ChangeSpec := { name := "arrayNil", fn := fun _ => fun
  | [d1, d2, d3] => { results := [.lit (.bool false)], args := [d1, d2, d3] }
  | _ => none }
def ArrayNilWrongFalsely : Prop := arrayNilRow.holds Tryz.pinned (OpenSpec.ofChange arrayNilWrong)

/- THE SECOND FORM. 'bulk': how many values and letters a reading holds, each counted each time it is reached (what is shared counts as often as it is met; a slice's spare places count too). A statement '..UptoSaid' is the law's where the arguments, and the package variables that the reading takes, are together of bulk at most 1048576: NARROWER than '..Said'. Prove '..Said' where nothing that the law and all that it calls make is longer than what came in: it says more and counts as full. Else prove '..UptoSaid'. A law counts once. -/
mutual
def uptoBulk {H : Type} : DataW H → Nat
  | .lit (.string bytes) => bytes.length + 1
  | .lit _ => 1
  | .nil => 1
  | .ptr d => uptoBulk d + 1
  | .slice elems spare => uptoBulkAll elems + uptoBulkAll spare + 1
  | .agg parts => uptoBulkAll parts + 1
  | .iface _ d => uptoBulk d + 1
  | .map entries => uptoBulkEntries entries + 1
  | .held _ => 1
def uptoBulkAll {H : Type} : List (DataW H) → Nat
  | [] => 0
  | d :: r => uptoBulk d + uptoBulkAll r
def uptoBulkEntries {H : Type} : List (Lit × DataW H) → Nat
  | [] => 0
  | x :: r => uptoBulkEntry x + uptoBulkEntries r
def uptoBulkEntry {H : Type} : Lit × DataW H → Nat
  | (.string bytes, d) => bytes.length + uptoBulk d + 1
  | (_, d) => uptoBulk d + 1
 end
def uptoSmall : (H : Type) → List (DataW H) → Bool := fun _ ds => decide (uptoBulkAll ds ≤ 1048576)
def OpenSpec.upto (s : _root_.Go.ChangeSpec) : _root_.Go.OpenSpec := { _root_.Go.OpenSpec.ofChange s with cond := some uptoSmall }

/-- 'ravelintop.WholeDrained', WHERE WHAT IT READS IS OF BULK AT MOST 1048576: true; the input reads as it did. -/
def wholeDrainedUptoRow : OpenClaim := { program := "ythhimblbnnafkaagreat", sum := "b3cfdb3b311ab563ae7828a6e380ad0db11530600d462a83935108c67d30ef68", func := "ravelin/ravelintop.WholeDrained", spec := "wholeDrained", inPlace := ["sync/atomic.LoadUint32", "sync/atomic.LoadInt64", "sync/atomic.StoreInt64", "sync/atomic.StoreUint32", "sync/atomic.AddInt64", "(*internal/sync.Mutex).Lock", "internal/race.Disable", "sync/atomic.CompareAndSwapInt32", "internal/race.Enable", "internal/race.Acquire", "(*internal/sync.Mutex).lockSlow", "internal/sync.runtime_canSpin", "internal/sync.runtime_doSpin", "internal/sync.throw", "internal/sync.runtime_nanotime", "internal/sync.runtime_SemacquireMutex", "sync/atomic.AddInt32", "(*internal/sync.Mutex).Unlock", "internal/race.ReleaseMerge", "(*internal/sync.Mutex).unlockSlow", "internal/sync.fatal", "internal/sync.runtime_Semrelease"], unfollowed := true, recurses := true, apart := false, narrowed := true }
def WholeDrainedUptoSaid : Prop := wholeDrainedUptoRow.holds Tryz.pinned (OpenSpec.upto wholeDrainedSpec)

/-- 'ravelintop.WholeTakeover', WHERE WHAT IT READS IS OF BULK AT MOST 1048576: true; the input reads as it did. -/
def wholeTakeoverUptoRow : OpenClaim := { program := "ythhimblbnnafkaagreat", sum := "b3cfdb3b311ab563ae7828a6e380ad0db11530600d462a83935108c67d30ef68", func := "ravelin/ravelintop.WholeTakeover", spec := "wholeTakeover", inPlace := ["sync/atomic.LoadUint32", "sync/atomic.LoadInt64", "sync/atomic.StoreInt64", "sync/atomic.StoreUint32", "sync/atomic.AddInt64", "(*internal/sync.Mutex).Lock", "internal/race.Disable", "sync/atomic.CompareAndSwapInt32", "internal/race.Enable", "internal/race.Acquire", "(*internal/sync.Mutex).lockSlow", "internal/sync.runtime_canSpin", "internal/sync.runtime_doSpin", "internal/sync.throw", "internal/sync.runtime_nanotime", "internal/sync.runtime_SemacquireMutex", "sync/atomic.AddInt32", "(*internal/sync.Mutex).Unlock", "internal/race.ReleaseMerge", "(*internal/sync.Mutex).unlockSlow", "internal/sync.fatal", "internal/sync.runtime_Semrelease"], unfollowed := true, recurses := true, apart := false, narrowed := true }
def WholeTakeoverUptoSaid : Prop := wholeTakeoverUptoRow.holds Tryz.pinned (OpenSpec.upto wholeTakeoverSpec)

/-- 'ravelinlaw09.StripePlays', WHERE WHAT IT READS IS OF BULK AT MOST 1048576: true; the input reads as it did. -/
def stripePlaysUptoRow : OpenClaim := { program := "ythhimblbnnafkaagreat", sum := "b3cfdb3b311ab563ae7828a6e380ad0db11530600d462a83935108c67d30ef68", func := "ravelin/ravelinlaw09.StripePlays", spec := "stripePlays", inPlace := ["sync/atomic.LoadUint32", "sync/atomic.LoadInt64", "sync/atomic.StoreInt64", "sync/atomic.StoreUint32", "sync/atomic.AddInt64"], apart := false, narrowed := true }
def StripePlaysUptoSaid : Prop := stripePlaysUptoRow.holds Tryz.pinned (OpenSpec.upto stripePlaysSpec)

/-- 'ravelintop.WholeCutAt', WHERE WHAT IT READS IS OF BULK AT MOST 1048576: true; the input reads as it did. -/
def wholeCutAtUptoRow : OpenClaim := { program := "ythhimblbnnafkaagreat", sum := "b3cfdb3b311ab563ae7828a6e380ad0db11530600d462a83935108c67d30ef68", func := "ravelin/ravelintop.WholeCutAt", spec := "wholeCutAt", inPlace := ["sync/atomic.LoadUint32", "sync/atomic.LoadInt64", "sync/atomic.StoreInt64", "sync/atomic.StoreUint32", "sync/atomic.AddInt64", "(*internal/sync.Mutex).Lock", "internal/race.Disable", "sync/atomic.CompareAndSwapInt32", "internal/race.Enable", "internal/race.Acquire", "(*internal/sync.Mutex).lockSlow", "internal/sync.runtime_canSpin", "internal/sync.runtime_doSpin", "internal/sync.throw", "internal/sync.runtime_nanotime", "internal/sync.runtime_SemacquireMutex", "sync/atomic.AddInt32", "(*internal/sync.Mutex).Unlock", "internal/race.ReleaseMerge", "(*internal/sync.Mutex).unlockSlow", "internal/sync.fatal", "internal/sync.runtime_Semrelease"], unfollowed := true, recurses := true, apart := false, narrowed := true }
def WholeCutAtUptoSaid : Prop := wholeCutAtUptoRow.holds Tryz.pinned (OpenSpec.upto wholeCutAtSpec)

/-- 'ravelinlaw10.IntentWhole', WHERE WHAT IT READS IS OF BULK AT MOST 1048576: true; the input reads as it did. -/
def intentWholeUptoRow : OpenClaim := { program := "ythhimblbnnafkaagreat", sum := "b3cfdb3b311ab563ae7828a6e380ad0db11530600d462a83935108c67d30ef68", func := "ravelin/ravelinlaw10.IntentWhole", spec := "intentWhole", inPlace := ["sync/atomic.LoadUint32", "sync/atomic.LoadInt64", "sync/atomic.StoreInt64", "sync/atomic.StoreUint32", "sync/atomic.AddInt64"], recurses := true, apart := false, narrowed := true }
def IntentWholeUptoSaid : Prop := intentWholeUptoRow.holds Tryz.pinned (OpenSpec.upto intentWholeSpec)

/-- 'ravelinlaw20.ArrayForms', WHERE WHAT IT READS IS OF BULK AT MOST 1048576: true; the input reads as it did. -/
def arrayFormsUptoRow : OpenClaim := { program := "ythhimblbnnafkaagreat", sum := "b3cfdb3b311ab563ae7828a6e380ad0db11530600d462a83935108c67d30ef68", func := "ravelin/ravelinlaw20.ArrayForms", spec := "arrayForms", inPlace := ["sync/atomic.LoadUint32", "sync/atomic.LoadInt64", "sync/atomic.StoreInt64", "sync/atomic.StoreUint32", "sync/atomic.AddInt64", "(*internal/sync.Mutex).Lock", "internal/race.Disable", "sync/atomic.CompareAndSwapInt32", "internal/race.Enable", "internal/race.Acquire", "(*internal/sync.Mutex).lockSlow", "internal/sync.runtime_canSpin", "internal/sync.runtime_doSpin", "internal/sync.throw", "internal/sync.runtime_nanotime", "internal/sync.runtime_SemacquireMutex", "sync/atomic.AddInt32", "(*internal/sync.Mutex).Unlock", "internal/race.ReleaseMerge", "(*internal/sync.Mutex).unlockSlow", "internal/sync.fatal", "internal/sync.runtime_Semrelease"], unfollowed := true, recurses := true, apart := false, narrowed := true }
def ArrayFormsUptoSaid : Prop := arrayFormsUptoRow.holds Tryz.pinned (OpenSpec.upto arrayFormsSpec)

/-- 'ravelinlaw20.ArraySteps', WHERE WHAT IT READS IS OF BULK AT MOST 1048576: true; the input reads as it did. -/
def arrayStepsUptoRow : OpenClaim := { program := "ythhimblbnnafkaagreat", sum := "b3cfdb3b311ab563ae7828a6e380ad0db11530600d462a83935108c67d30ef68", func := "ravelin/ravelinlaw20.ArraySteps", spec := "arraySteps", inPlace := ["sync/atomic.LoadUint32", "sync/atomic.LoadInt64", "sync/atomic.StoreInt64", "sync/atomic.StoreUint32", "sync/atomic.AddInt64", "(*internal/sync.Mutex).Lock", "internal/race.Disable", "sync/atomic.CompareAndSwapInt32", "internal/race.Enable", "internal/race.Acquire", "(*internal/sync.Mutex).lockSlow", "internal/sync.runtime_canSpin", "internal/sync.runtime_doSpin", "internal/sync.throw", "internal/sync.runtime_nanotime", "internal/sync.runtime_SemacquireMutex", "sync/atomic.AddInt32", "(*internal/sync.Mutex).Unlock", "internal/race.ReleaseMerge", "(*internal/sync.Mutex).unlockSlow", "internal/sync.fatal", "internal/sync.runtime_Semrelease"], unfollowed := true, recurses := true, apart := false, narrowed := true }
def ArrayStepsUptoSaid : Prop := arrayStepsUptoRow.holds Tryz.pinned (OpenSpec.upto arrayStepsSpec)

/-- 'ravelinlaw20.ArrayRebuilds', WHERE WHAT IT READS IS OF BULK AT MOST 1048576: true; the input reads as it did. -/
def arrayRebuildsUptoRow : OpenClaim := { program := "ythhimblbnnafkaagreat", sum := "b3cfdb3b311ab563ae7828a6e380ad0db11530600d462a83935108c67d30ef68", func := "ravelin/ravelinlaw20.ArrayRebuilds", spec := "arrayRebuilds", inPlace := ["sync/atomic.LoadUint32", "sync/atomic.LoadInt64", "sync/atomic.StoreInt64", "sync/atomic.StoreUint32", "sync/atomic.AddInt64", "(*internal/sync.Mutex).Lock", "internal/race.Disable", "sync/atomic.CompareAndSwapInt32", "internal/race.Enable", "internal/race.Acquire", "(*internal/sync.Mutex).lockSlow", "internal/sync.runtime_canSpin", "internal/sync.runtime_doSpin", "internal/sync.throw", "internal/sync.runtime_nanotime", "internal/sync.runtime_SemacquireMutex", "sync/atomic.AddInt32", "(*internal/sync.Mutex).Unlock", "internal/race.ReleaseMerge", "(*internal/sync.Mutex).unlockSlow", "internal/sync.fatal", "internal/sync.runtime_Semrelease"], unfollowed := true, recurses := true, apart := false, narrowed := true }
def ArrayRebuildsUptoSaid : Prop := arrayRebuildsUptoRow.holds Tryz.pinned (OpenSpec.upto arrayRebuildsSpec)

/-- 'ravelinlaw20.ArrayNil', WHERE WHAT IT READS IS OF BULK AT MOST 1048576: true; the input reads as it did. -/
def arrayNilUptoRow : OpenClaim := { program := "ythhimblbnnafkaagreat", sum := "b3cfdb3b311ab563ae7828a6e380ad0db11530600d462a83935108c67d30ef68", func := "ravelin/ravelinlaw20.ArrayNil", spec := "arrayNil", inPlace := ["sync/atomic.LoadUint32", "(*internal/sync.Mutex).Lock", "internal/race.Disable", "sync/atomic.CompareAndSwapInt32", "internal/race.Enable", "internal/race.Acquire", "(*internal/sync.Mutex).lockSlow", "internal/sync.runtime_canSpin", "internal/sync.runtime_doSpin", "internal/sync.throw", "internal/sync.runtime_nanotime", "internal/sync.runtime_SemacquireMutex", "sync/atomic.AddInt32", "(*internal/sync.Mutex).Unlock", "internal/race.ReleaseMerge", "(*internal/sync.Mutex).unlockSlow", "internal/sync.fatal", "internal/sync.runtime_Semrelease", "sync/atomic.LoadInt64", "sync/atomic.StoreInt64", "sync/atomic.StoreUint32", "sync/atomic.AddInt64"], unfollowed := true, recurses := true, apart := false, narrowed := true }
def ArrayNilUptoSaid : Prop := arrayNilUptoRow.holds Tryz.pinned (OpenSpec.upto arrayNilSpec)

end Rows
end Go.Proofs.YthhimblbnnafkaaGreat
