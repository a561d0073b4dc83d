/-
  No cell of these rows narrows 'for every input' (looked for: loops, veiled, ifaces, maps, wideKeys, modest, calm, conditions, laid).
  DERIVED. THE GIVEN ROWS OF THIS SEAT. 6 by the template 'for every input the law returns true; each argument reads behind the call as it read before'; 0 by the template 'total and deterministic' (their statements: YtjikegaipldnhaaTotals.lean).
  GIVEN WITH THE SEED: the statements are not yours to turn. If you find one false, say at which input.
  Laid BY PROGRAM, IN A SANDBOX (cutbox-rows.mjs): the forced cells as the released guide's own fill.sh prints them over the translation 2eea9c7d291ecd04… (all of the seat's roots in one cut). By AI agents, Wed Nov 11 2026. No macro, syntax, notation, axiom, sorry.
-/
import Derived.Test.YtjikegaipldnhaaChecked
import GoSem.Claim
import GoSem.ClaimJoined
import GoSem.ClaimMapViews
import Derived.JoinedTies
import Derived.KernelRfl
namespace Go.Proofs.Ytjikegaipldnhaa
/- THE CELL 'sum', in the pinned program and in every row, IS THE sha256 OF THE DUMP (.gsa) THAT YtjikegaipldnhaaProg.lean LOADS. Nothing in Lean hashes anything: it is a label: what it is worth is what the hold of that sum in a sandbox is worth. -/
noncomputable def Try.pinned : Pinned := { name := "ytjikegaipldnhaa", sum := "2eea9c7d291ecd04b2325a417fab776d34ea78ce5cc9a8317d401a86b3fc002e", checked := Try.checked }
namespace Rows
def none {H : Type} : Left H := { results := [], args := [] }

/-- 'ravelinlaw12.MirrorBoth': WHATEVER THE INPUT: true; the input reads as it did. -/
def mirrorBothSpec : ChangeSpec := { name := "mirrorBoth", fn := fun _ => fun
  | [d1, d2, d3, d4] => { results := [.lit (.bool true)], args := [d1, d2, d3, d4] }
  | _ => none }
def mirrorBothRow : OpenClaim := { program := "ytjikegaipldnhaa", sum := "2eea9c7d291ecd04b2325a417fab776d34ea78ce5cc9a8317d401a86b3fc002e", func := "ravelin/ravelinlaw12.MirrorBoth", spec := "mirrorBoth", inPlace := ["sync/atomic.LoadUint32", "sync/atomic.LoadInt64", "sync/atomic.StoreInt64", "sync/atomic.StoreUint32", "sync/atomic.AddInt64"], apart := false }
def MirrorBothSaid : Prop := mirrorBothRow.holds Try.pinned (OpenSpec.ofChange mirrorBothSpec)

/-- ITS FALSE NEIGHBOUR: 'it returns false'. Refute it at one input. -/
def mirrorBothWrong : ChangeSpec := { name := "mirrorBoth", fn := fun _ => fun
  | [d1, d2, d3, d4] => { results := [.lit (.bool false)], args := [d1, d2, d3, d4] }
  | _ => none }
def MirrorBothWrongFalsely : Prop := mirrorBothRow.holds Try.pinned (OpenSpec.ofChange mirrorBothWrong)

/-- 'ravelinlaw10.IntentBegins': WHATEVER THE INPUT: true; the input reads as it did. -/
def intentBeginsSpec : ChangeSpec := { name := "intentBegins", fn := fun _ => fun
  | [d1, d2, d3, d4, d5] => { results := [.lit (.bool true)], args := [d1, d2, d3, d4, d5] }
  | _ => none }
def intentBeginsRow : OpenClaim := { program := "ytjikegaipldnhaa", sum := "2eea9c7d291ecd04b2325a417fab776d34ea78ce5cc9a8317d401a86b3fc002e", func := "ravelin/ravelinlaw10.IntentBegins", spec := "intentBegins", inPlace := ["sync/atomic.LoadUint32", "sync/atomic.LoadInt64", "sync/atomic.StoreInt64", "sync/atomic.StoreUint32", "sync/atomic.AddInt64"], recurses := true, apart := false }
def IntentBeginsSaid : Prop := intentBeginsRow.holds Try.pinned (OpenSpec.ofChange intentBeginsSpec)

/-- ITS FALSE NEIGHBOUR: 'it returns false'. Refute it at one input. -/
def intentBeginsWrong : ChangeSpec := { name := "intentBegins", fn := fun _ => fun
  | [d1, d2, d3, d4, d5] => { results := [.lit (.bool false)], args := [d1, d2, d3, d4, d5] }
  | _ => none }
def IntentBeginsWrongFalsely : Prop := intentBeginsRow.holds Try.pinned (OpenSpec.ofChange intentBeginsWrong)

/-- 'ravelinlaw12.MirrorSides': WHATEVER THE INPUT: true; the input reads as it did. -/
def mirrorSidesSpec : ChangeSpec := { name := "mirrorSides", fn := fun _ => fun
  | [d1, d2, d3, d4] => { results := [.lit (.bool true)], args := [d1, d2, d3, d4] }
  | _ => none }
def mirrorSidesRow : OpenClaim := { program := "ytjikegaipldnhaa", sum := "2eea9c7d291ecd04b2325a417fab776d34ea78ce5cc9a8317d401a86b3fc002e", func := "ravelin/ravelinlaw12.MirrorSides", spec := "mirrorSides", inPlace := ["sync/atomic.LoadUint32", "sync/atomic.LoadInt64", "sync/atomic.StoreInt64", "sync/atomic.StoreUint32", "sync/atomic.AddInt64"], unfollowed := true, recurses := true, apart := false }
def MirrorSidesSaid : Prop := mirrorSidesRow.holds Try.pinned (OpenSpec.ofChange mirrorSidesSpec)

/-- ITS FALSE NEIGHBOUR: 'it returns false'. Refute it at one input. -/
def mirrorSidesWrong : ChangeSpec := { name := "mirrorSides", fn := fun _ => fun
  | [d1, d2, d3, d4] => { results := [.lit (.bool false)], args := [d1, d2, d3, d4] }
  | _ => none }
def MirrorSidesWrongFalsely : Prop := mirrorSidesRow.holds Try.pinned (OpenSpec.ofChange mirrorSidesWrong)

/-- 'ravelinlaw10.IntentOrder': WHATEVER THE INPUT: true; the input reads as it did. -/
def intentOrderSpec : ChangeSpec := { name := "intentOrder", fn := fun _ => fun
  | [d1, d2, d3] => { results := [.lit (.bool true)], args := [d1, d2, d3] }
  | _ => none }
def intentOrderRow : OpenClaim := { program := "ytjikegaipldnhaa", sum := "2eea9c7d291ecd04b2325a417fab776d34ea78ce5cc9a8317d401a86b3fc002e", func := "ravelin/ravelinlaw10.IntentOrder", spec := "intentOrder", inPlace := ["sync/atomic.LoadUint32", "sync/atomic.LoadInt64", "sync/atomic.StoreInt64", "sync/atomic.StoreUint32", "sync/atomic.AddInt64"], recurses := true, apart := false }
def IntentOrderSaid : Prop := intentOrderRow.holds Try.pinned (OpenSpec.ofChange intentOrderSpec)

/-- ITS FALSE NEIGHBOUR: 'it returns false'. Refute it at one input. -/
def intentOrderWrong : ChangeSpec := { name := "intentOrder", fn := fun _ => fun
  | [d1, d2, d3] => { results := [.lit (.bool false)], args := [d1, d2, d3] }
  | _ => none }
def IntentOrderWrongFalsely : Prop := intentOrderRow.holds Try.pinned (OpenSpec.ofChange intentOrderWrong)

/-- 'ravelinlaw10.IntentRedoes': WHATEVER THE INPUT: true; the input reads as it did. -/
def intentRedoesSpec : ChangeSpec := { name := "intentRedoes", fn := fun _ => fun
  | [d1, d2, d3] => { results := [.lit (.bool true)], args := [d1, d2, d3] }
  | _ => none }
def intentRedoesRow : OpenClaim := { program := "ytjikegaipldnhaa", sum := "2eea9c7d291ecd04b2325a417fab776d34ea78ce5cc9a8317d401a86b3fc002e", func := "ravelin/ravelinlaw10.IntentRedoes", spec := "intentRedoes", inPlace := ["sync/atomic.LoadUint32", "sync/atomic.LoadInt64", "sync/atomic.StoreInt64", "sync/atomic.StoreUint32", "sync/atomic.AddInt64"], recurses := true, apart := false }
def IntentRedoesSaid : Prop := intentRedoesRow.holds Try.pinned (OpenSpec.ofChange intentRedoesSpec)

/-- ITS FALSE NEIGHBOUR: 'it returns false'. Refute it at one input. -/
def intentRedoesWrong : ChangeSpec := { name := "intentRedoes", fn := fun _ => fun
  | [d1, d2, d3] => { results := [.lit (.bool false)], args := [d1, d2, d3] }
  | _ => none }
def IntentRedoesWrongFalsely : Prop := intentRedoesRow.holds Try.pinned (OpenSpec.ofChange intentRedoesWrong)

/-- 'ravelinlaw12.MirrorNil': WHATEVER THE INPUT: true; the input reads as it did. -/
def mirrorNilSpec : ChangeSpec := { name := "mirrorNil", fn := fun _ => fun
  | [d1, d2, d3, d4] => { results := [.lit (.bool true)], args := [d1, d2, d3, d4] }
  | _ => none }
def mirrorNilRow : OpenClaim := { program := "ytjikegaipldnhaa", sum := "2eea9c7d291ecd04b2325a417fab776d34ea78ce5cc9a8317d401a86b3fc002e", func := "ravelin/ravelinlaw12.MirrorNil", spec := "mirrorNil", inPlace := ["sync/atomic.LoadUint32", "sync/atomic.LoadInt64", "sync/atomic.StoreInt64", "sync/atomic.StoreUint32", "sync/atomic.AddInt64"], unfollowed := true, recurses := true, apart := false }
def MirrorNilSaid : Prop := mirrorNilRow.holds Try.pinned (OpenSpec.ofChange mirrorNilSpec)

/-- ITS FALSE NEIGHBOUR: 'it returns false'. Refute it at one input. -/
def mirrorNilWrong : ChangeSpec := { name := "mirrorNil", fn := fun _ => fun
  | [d1, d2, d3, d4] => { results := [.lit (.bool false)], args := [d1, d2, d3, d4] }
  | _ => none }
def MirrorNilWrongFalsely : Prop := mirrorNilRow.holds Try.pinned (OpenSpec.ofChange mirrorNilWrong)

/- THE SECOND FORM. 'bulk': how many values and letters a reading holds, each counted each time it is reached (what is shared counts as often as it is met; a slice's spare places count too). A statement '..UptoSaid' is the law's where the arguments, and the package variables that the reading takes, are together of bulk at most 1048576: NARROWER than '..Said'. Prove '..Said' where nothing that the law and all that it calls make is longer than what came in: it says more and counts as full. Else prove '..UptoSaid'. A law counts once. -/
mutual
def uptoBulk {H : Type} : DataW H → Nat
  | .lit (.string bytes) => bytes.length + 1
  | .lit _ => 1
  | .nil => 1
  | .ptr d => uptoBulk d + 1
  | .slice elems spare => uptoBulkAll elems + uptoBulkAll spare + 1
  | .agg parts => uptoBulkAll parts + 1
  | .iface _ d => uptoBulk d + 1
  | .map entries => uptoBulkEntries entries + 1
  | .held _ => 1
def uptoBulkAll {H : Type} : List (DataW H) → Nat
  | [] => 0
  | d :: r => uptoBulk d + uptoBulkAll r
def uptoBulkEntries {H : Type} : List (Lit × DataW H) → Nat
  | [] => 0
  | x :: r => uptoBulkEntry x + uptoBulkEntries r
def uptoBulkEntry {H : Type} : Lit × DataW H → Nat
  | (.string bytes, d) => bytes.length + uptoBulk d + 1
  | (_, d) => uptoBulk d + 1
 end
def uptoSmall : (H : Type) → List (DataW H) → Bool := fun _ ds => decide (uptoBulkAll ds ≤ 1048576)
def OpenSpec.upto (s : _root_.Go.ChangeSpec) : _root_.Go.OpenSpec := { _root_.Go.OpenSpec.ofChange s with cond := some uptoSmall }

/-- 'ravelinlaw12.MirrorBoth', WHERE WHAT IT READS IS OF BULK AT MOST 1048576: true; the input reads as it did. -/
def mirrorBothUptoRow : OpenClaim := { program := "ytjikegaipldnhaa", sum := "2eea9c7d291ecd04b2325a417fab776d34ea78ce5cc9a8317d401a86b3fc002e", func := "ravelin/ravelinlaw12.MirrorBoth", spec := "mirrorBoth", inPlace := ["sync/atomic.LoadUint32", "sync/atomic.LoadInt64", "sync/atomic.StoreInt64", "sync/atomic.StoreUint32", "sync/atomic.AddInt64"], apart := false, narrowed := true }
def MirrorBothUptoSaid : Prop := mirrorBothUptoRow.holds Try.pinned (OpenSpec.upto mirrorBothSpec)

/-- 'ravelinlaw10.IntentBegins', WHERE WHAT IT READS IS OF BULK AT MOST 1048576: true; the input reads as it did. -/
def intentBeginsUptoRow : OpenClaim := { program := "ytjikegaipldnhaa", sum := "2eea9c7d291ecd04b2325a417fab776d34ea78ce5cc9a8317d401a86b3fc002e", func := "ravelin/ravelinlaw10.IntentBegins", spec := "intentBegins", inPlace := ["sync/atomic.LoadUint32", "sync/atomic.LoadInt64", "sync/atomic.StoreInt64", "sync/atomic.StoreUint32", "sync/atomic.AddInt64"], recurses := true, apart := false, narrowed := true }
def IntentBeginsUptoSaid : Prop := intentBeginsUptoRow.holds Try.pinned (OpenSpec.upto intentBeginsSpec)

/-- 'ravelinlaw12.MirrorSides', WHERE WHAT IT READS IS OF BULK AT MOST 1048576: true; the input reads as it did. -/
def mirrorSidesUptoRow : OpenClaim := { program := "ytjikegaipldnhaa", sum := "2eea9c7d291ecd04b2325a417fab776d34ea78ce5cc9a8317d401a86b3fc002e", func := "ravelin/ravelinlaw12.MirrorSides", spec := "mirrorSides", inPlace := ["sync/atomic.LoadUint32", "sync/atomic.LoadInt64", "sync/atomic.StoreInt64", "sync/atomic.StoreUint32", "sync/atomic.AddInt64"], unfollowed := true, recurses := true, apart := false, narrowed := true }
def MirrorSidesUptoSaid : Prop := mirrorSidesUptoRow.holds Try.pinned (OpenSpec.upto mirrorSidesSpec)

/-- 'ravelinlaw10.IntentOrder', WHERE WHAT IT READS IS OF BULK AT MOST 1048576: true; the input reads as it did. -/
def intentOrderUptoRow : OpenClaim := { program := "ytjikegaipldnhaa", sum := "2eea9c7d291ecd04b2325a417fab776d34ea78ce5cc9a8317d401a86b3fc002e", func := "ravelin/ravelinlaw10.IntentOrder", spec := "intentOrder", inPlace := ["sync/atomic.LoadUint32", "sync/atomic.LoadInt64", "sync/atomic.StoreInt64", "sync/atomic.StoreUint32", "sync/atomic.AddInt64"], recurses := true, apart := false, narrowed := true }
def IntentOrderUptoSaid : Prop := intentOrderUptoRow.holds Try.pinned (OpenSpec.upto intentOrderSpec)

/-- 'ravelinlaw10.IntentRedoes', WHERE WHAT IT READS IS OF BULK AT MOST 1048576: true; the input reads as it did. -/
def intentRedoesUptoRow : OpenClaim := { program := "ytjikegaipldnhaa", sum := "2eea9c7d291ecd04b2325a417fab776d34ea78ce5cc9a8317d401a86b3fc002e", func := "ravelin/ravelinlaw10.IntentRedoes", spec := "intentRedoes", inPlace := ["sync/atomic.LoadUint32", "sync/atomic.LoadInt64", "sync/atomic.StoreInt64", "sync/atomic.StoreUint32", "sync/atomic.AddInt64"], recurses := true, apart := false, narrowed := true }
def IntentRedoesUptoSaid : Prop := intentRedoesUptoRow.holds Try.pinned (OpenSpec.upto intentRedoesSpec)

/-- 'ravelinlaw12.MirrorNil', WHERE WHAT IT READS IS OF BULK AT MOST 1048576: true; the input reads as it did. -/
def mirrorNilUptoRow : OpenClaim := { program := "ytjikegaipldnhaa", sum := "2eea9c7d291ecd04b2325a417fab776d34ea78ce5cc9a8317d401a86b3fc002e", func := "ravelin/ravelinlaw12.MirrorNil", spec := "mirrorNil", inPlace := ["sync/atomic.LoadUint32", "sync/atomic.LoadInt64", "sync/atomic.StoreInt64", "sync/atomic.StoreUint32", "sync/atomic.AddInt64"], unfollowed := true, recurses := true, apart := false, narrowed := true }
def MirrorNilUptoSaid : Prop := mirrorNilUptoRow.holds Try.pinned (OpenSpec.upto mirrorNilSpec)

end Rows
end Go.Proofs.Ytjikegaipldnhaa
