/-
  No cell of these rows narrows 'for every input' (looked for: loops, veiled, ifaces, maps, wideKeys, modest, calm, conditions, laid).
  DERIVED. THE GIVEN ROWS OF THIS SEAT. 9 by the template 'for every input the law returns true; each argument reads behind the call as it read before'; 0 by the template 'total and deterministic' (their statements: YtacnieopbkeoiaaTotals.lean).
  GIVEN WITH THE SEED: the statements are not yours to turn. If you find one false, say at which input.
  Laid BY PROGRAM, IN A SANDBOX (cutbox-rows.mjs): the forced cells as the released guide's own fill.sh prints them over the translation 5a98d99d58f04c0f… (all of the seat's roots in one cut). By AI agents, Wed Nov 11 2026. No macro, syntax, notation, axiom, sorry.
-/
import Derived.Test.YtacnieopbkeoiaaChecked
import GoSem.Claim
import GoSem.ClaimJoined
import GoSem.ClaimMapViews
import Derived.JoinedTies
import Derived.KernelRfl
namespace Go.Proofs.Ytacnieopbkeoiaa
/- THE CELL 'sum', in the pinned program and in every row, IS THE sha256 OF THE DUMP (.gsa) THAT YtacnieopbkeoiaaProg.lean LOADS. Nothing in Lean hashes anything: it is a label: what it is worth is what the hold of that sum in a sandbox is worth. -/
noncomputable def Try.pinned : Pinned := { name := "ytacnieopbkeoiaa", sum := "5a98d99d58f04c0f5adde3b7f3498348b931bee1cf8c66f45e276b275e75add9", checked := Try.checked }
namespace Rows
def none {H : Type} : Left H := { results := [], args := [] }

/-- 'ravelinlaw11.CacheLast': WHATEVER THE INPUT: true; the input reads as it did. -/
def cacheLastSpec : ChangeSpec := { name := "cacheLast", fn := fun _ => fun
  | [d1, d2, d3] => { results := [.lit (.bool true)], args := [d1, d2, d3] }
  | _ => none }
def cacheLastRow : OpenClaim := { program := "ytacnieopbkeoiaa", sum := "5a98d99d58f04c0f5adde3b7f3498348b931bee1cf8c66f45e276b275e75add9", func := "ravelin/ravelinlaw11.CacheLast", spec := "cacheLast", apart := false }
def CacheLastSaid : Prop := cacheLastRow.holds Try.pinned (OpenSpec.ofChange cacheLastSpec)

/-- ITS FALSE NEIGHBOUR: 'it returns false'. Refute it at one input. -/
def cacheLastWrong : ChangeSpec := { name := "cacheLast", fn := fun _ => fun
  | [d1, d2, d3] => { results := [.lit (.bool false)], args := [d1, d2, d3] }
  | _ => none }
def CacheLastWrongFalsely : Prop := cacheLastRow.holds Try.pinned (OpenSpec.ofChange cacheLastWrong)

/-- 'ravelinlaw13.MergeAny': WHATEVER THE INPUT: true; the input reads as it did. -/
def mergeAnySpec : ChangeSpec := { name := "mergeAny", fn := fun _ => fun
  | [d1, d2] => { results := [.lit (.bool true)], args := [d1, d2] }
  | _ => none }
def mergeAnyRow : OpenClaim := { program := "ytacnieopbkeoiaa", sum := "5a98d99d58f04c0f5adde3b7f3498348b931bee1cf8c66f45e276b275e75add9", func := "ravelin/ravelinlaw13.MergeAny", spec := "mergeAny", unfollowed := true, recurses := true, apart := false }
def MergeAnySaid : Prop := mergeAnyRow.holds Try.pinned (OpenSpec.ofChange mergeAnySpec)

/-- ITS FALSE NEIGHBOUR: 'it returns false'. Refute it at one input. -/
def mergeAnyWrong : ChangeSpec := { name := "mergeAny", fn := fun _ => fun
  | [d1, d2] => { results := [.lit (.bool false)], args := [d1, d2] }
  | _ => none }
def MergeAnyWrongFalsely : Prop := mergeAnyRow.holds Try.pinned (OpenSpec.ofChange mergeAnyWrong)

/-- 'ravelinlaw13.MergeCleans': WHATEVER THE INPUT: true; the input reads as it did. -/
def mergeCleansSpec : ChangeSpec := { name := "mergeCleans", fn := fun _ => fun
  | [d1, d2, d3, d4] => { results := [.lit (.bool true)], args := [d1, d2, d3, d4] }
  | _ => none }
def mergeCleansRow : OpenClaim := { program := "ytacnieopbkeoiaa", sum := "5a98d99d58f04c0f5adde3b7f3498348b931bee1cf8c66f45e276b275e75add9", func := "ravelin/ravelinlaw13.MergeCleans", spec := "mergeCleans", unfollowed := true, recurses := true, apart := false }
def MergeCleansSaid : Prop := mergeCleansRow.holds Try.pinned (OpenSpec.ofChange mergeCleansSpec)

/-- ITS FALSE NEIGHBOUR: 'it returns false'. Refute it at one input. -/
def mergeCleansWrong : ChangeSpec := { name := "mergeCleans", fn := fun _ => fun
  | [d1, d2, d3, d4] => { results := [.lit (.bool false)], args := [d1, d2, d3, d4] }
  | _ => none }
def MergeCleansWrongFalsely : Prop := mergeCleansRow.holds Try.pinned (OpenSpec.ofChange mergeCleansWrong)

/-- 'ravelinlaw13.MergeDirties': WHATEVER THE INPUT: true; the input reads as it did. -/
def mergeDirtiesSpec : ChangeSpec := { name := "mergeDirties", fn := fun _ => fun
  | [d] => { results := [.lit (.bool true)], args := [d] }
  | _ => none }
def mergeDirtiesRow : OpenClaim := { program := "ytacnieopbkeoiaa", sum := "5a98d99d58f04c0f5adde3b7f3498348b931bee1cf8c66f45e276b275e75add9", func := "ravelin/ravelinlaw13.MergeDirties", spec := "mergeDirties", unfollowed := true, recurses := true, apart := false }
def MergeDirtiesSaid : Prop := mergeDirtiesRow.holds Try.pinned (OpenSpec.ofChange mergeDirtiesSpec)

/-- ITS FALSE NEIGHBOUR: 'it returns false'. Refute it at one input. -/
def mergeDirtiesWrong : ChangeSpec := { name := "mergeDirties", fn := fun _ => fun
  | [d] => { results := [.lit (.bool false)], args := [d] }
  | _ => none }
def MergeDirtiesWrongFalsely : Prop := mergeDirtiesRow.holds Try.pinned (OpenSpec.ofChange mergeDirtiesWrong)

/-- 'ravelinlaw13.MergeSides': WHATEVER THE INPUT: true; the input reads as it did. -/
def mergeSidesSpec : ChangeSpec := { name := "mergeSides", fn := fun _ => fun
  | [d1, d2] => { results := [.lit (.bool true)], args := [d1, d2] }
  | _ => none }
def mergeSidesRow : OpenClaim := { program := "ytacnieopbkeoiaa", sum := "5a98d99d58f04c0f5adde3b7f3498348b931bee1cf8c66f45e276b275e75add9", func := "ravelin/ravelinlaw13.MergeSides", spec := "mergeSides", unfollowed := true, recurses := true, apart := false }
def MergeSidesSaid : Prop := mergeSidesRow.holds Try.pinned (OpenSpec.ofChange mergeSidesSpec)

/-- ITS FALSE NEIGHBOUR: 'it returns false'. Refute it at one input. -/
def mergeSidesWrong : ChangeSpec := { name := "mergeSides", fn := fun _ => fun
  | [d1, d2] => { results := [.lit (.bool false)], args := [d1, d2] }
  | _ => none }
def MergeSidesWrongFalsely : Prop := mergeSidesRow.holds Try.pinned (OpenSpec.ofChange mergeSidesWrong)

/-- 'ravelinlaw11.CachePlays': WHATEVER THE INPUT: true; the input reads as it did. -/
def cachePlaysSpec : ChangeSpec := { name := "cachePlays", fn := fun _ => fun
  | [d1, d2] => { results := [.lit (.bool true)], args := [d1, d2] }
  | _ => none }
def cachePlaysRow : OpenClaim := { program := "ytacnieopbkeoiaa", sum := "5a98d99d58f04c0f5adde3b7f3498348b931bee1cf8c66f45e276b275e75add9", func := "ravelin/ravelinlaw11.CachePlays", spec := "cachePlays", unfollowed := true, recurses := true, apart := false }
def CachePlaysSaid : Prop := cachePlaysRow.holds Try.pinned (OpenSpec.ofChange cachePlaysSpec)

/-- ITS FALSE NEIGHBOUR: 'it returns false'. Refute it at one input. -/
def cachePlaysWrong : ChangeSpec := { name := "cachePlays", fn := fun _ => fun
  | [d1, d2] => { results := [.lit (.bool false)], args := [d1, d2] }
  | _ => none }
def CachePlaysWrongFalsely : Prop := cachePlaysRow.holds Try.pinned (OpenSpec.ofChange cachePlaysWrong)

/-- 'ravelinlaw11.CacheDrains': WHATEVER THE INPUT: true; the input reads as it did. -/
def cacheDrainsSpec : ChangeSpec := { name := "cacheDrains", fn := fun _ => fun
  | [d] => { results := [.lit (.bool true)], args := [d] }
  | _ => none }
def cacheDrainsRow : OpenClaim := { program := "ytacnieopbkeoiaa", sum := "5a98d99d58f04c0f5adde3b7f3498348b931bee1cf8c66f45e276b275e75add9", func := "ravelin/ravelinlaw11.CacheDrains", spec := "cacheDrains", unfollowed := true, recurses := true, apart := false }
def CacheDrainsSaid : Prop := cacheDrainsRow.holds Try.pinned (OpenSpec.ofChange cacheDrainsSpec)

/-- ITS FALSE NEIGHBOUR: 'it returns false'. Refute it at one input. -/
def cacheDrainsWrong : ChangeSpec := { name := "cacheDrains", fn := fun _ => fun
  | [d] => { results := [.lit (.bool false)], args := [d] }
  | _ => none }
def CacheDrainsWrongFalsely : Prop := cacheDrainsRow.holds Try.pinned (OpenSpec.ofChange cacheDrainsWrong)

/-- 'ravelinlaw11.CacheNil': WHATEVER THE INPUT: true; the input reads as it did. -/
def cacheNilSpec : ChangeSpec := { name := "cacheNil", fn := fun _ => fun
  | [d1, d2, d3] => { results := [.lit (.bool true)], args := [d1, d2, d3] }
  | _ => none }
def cacheNilRow : OpenClaim := { program := "ytacnieopbkeoiaa", sum := "5a98d99d58f04c0f5adde3b7f3498348b931bee1cf8c66f45e276b275e75add9", func := "ravelin/ravelinlaw11.CacheNil", spec := "cacheNil", unfollowed := true, recurses := true, apart := false }
def CacheNilSaid : Prop := cacheNilRow.holds Try.pinned (OpenSpec.ofChange cacheNilSpec)

/-- ITS FALSE NEIGHBOUR: 'it returns false'. Refute it at one input. -/
def cacheNilWrong : ChangeSpec := { name := "cacheNil", fn := fun _ => fun
  | [d1, d2, d3] => { results := [.lit (.bool false)], args := [d1, d2, d3] }
  | _ => none }
def CacheNilWrongFalsely : Prop := cacheNilRow.holds Try.pinned (OpenSpec.ofChange cacheNilWrong)

/-- 'ravelinlaw13.MergeEpochs': WHATEVER THE INPUT: true; the input reads as it did. -/
def mergeEpochsSpec : ChangeSpec := { name := "mergeEpochs", fn := fun _ => fun
  | [d1, d2, d3] => { results := [.lit (.bool true)], args := [d1, d2, d3] }
  | _ => none }
def mergeEpochsRow : OpenClaim := { program := "ytacnieopbkeoiaa", sum := "5a98d99d58f04c0f5adde3b7f3498348b931bee1cf8c66f45e276b275e75add9", func := "ravelin/ravelinlaw13.MergeEpochs", spec := "mergeEpochs", unfollowed := true, recurses := true, apart := false }
def MergeEpochsSaid : Prop := mergeEpochsRow.holds Try.pinned (OpenSpec.ofChange mergeEpochsSpec)

/-- ITS FALSE NEIGHBOUR: 'it returns false'. Refute it at one input. -/
def mergeEpochsWrong : ChangeSpec := { name := "mergeEpochs", fn := fun _ => fun
  | [d1, d2, d3] => { results := [.lit (.bool false)], args := [d1, d2, d3] }
  | _ => none }
def MergeEpochsWrongFalsely : Prop := mergeEpochsRow.holds Try.pinned (OpenSpec.ofChange mergeEpochsWrong)

/- THE SECOND FORM. 'bulk': how many values and letters a reading holds, each counted each time it is reached (what is shared counts as often as it is met; a slice's spare places count too). A statement '..UptoSaid' is the law's where the arguments, and the package variables that the reading takes, are together of bulk at most 1048576: NARROWER than '..Said'. Prove '..Said' where nothing that the law and all that it calls make is longer than what came in: it says more and counts as full. Else prove '..UptoSaid'. A law counts once. -/
mutual
def uptoBulk {H : Type} : DataW H → Nat
  | .lit (.string bytes) => bytes.length + 1
  | .lit _ => 1
  | .nil => 1
  | .ptr d => uptoBulk d + 1
  | .slice elems spare => uptoBulkAll elems + uptoBulkAll spare + 1
  | .agg parts => uptoBulkAll parts + 1
  | .iface _ d => uptoBulk d + 1
  | .map entries => uptoBulkEntries entries + 1
  | .held _ => 1
def uptoBulkAll {H : Type} : List (DataW H) → Nat
  | [] => 0
  | d :: r => uptoBulk d + uptoBulkAll r
def uptoBulkEntries {H : Type} : List (Lit × DataW H) → Nat
  | [] => 0
  | x :: r => uptoBulkEntry x + uptoBulkEntries r
def uptoBulkEntry {H : Type} : Lit × DataW H → Nat
  | (.string bytes, d) => bytes.length + uptoBulk d + 1
  | (_, d) => uptoBulk d + 1
 end
def uptoSmall : (H : Type) → List (DataW H) → Bool := fun _ ds => decide (uptoBulkAll ds ≤ 1048576)
def OpenSpec.upto (s : _root_.Go.ChangeSpec) : _root_.Go.OpenSpec := { _root_.Go.OpenSpec.ofChange s with cond := some uptoSmall }

/-- 'ravelinlaw11.CacheLast', WHERE WHAT IT READS IS OF BULK AT MOST 1048576: true; the input reads as it did. -/
def cacheLastUptoRow : OpenClaim := { program := "ytacnieopbkeoiaa", sum := "5a98d99d58f04c0f5adde3b7f3498348b931bee1cf8c66f45e276b275e75add9", func := "ravelin/ravelinlaw11.CacheLast", spec := "cacheLast", apart := false, narrowed := true }
def CacheLastUptoSaid : Prop := cacheLastUptoRow.holds Try.pinned (OpenSpec.upto cacheLastSpec)

/-- 'ravelinlaw13.MergeAny', WHERE WHAT IT READS IS OF BULK AT MOST 1048576: true; the input reads as it did. -/
def mergeAnyUptoRow : OpenClaim := { program := "ytacnieopbkeoiaa", sum := "5a98d99d58f04c0f5adde3b7f3498348b931bee1cf8c66f45e276b275e75add9", func := "ravelin/ravelinlaw13.MergeAny", spec := "mergeAny", unfollowed := true, recurses := true, apart := false, narrowed := true }
def MergeAnyUptoSaid : Prop := mergeAnyUptoRow.holds Try.pinned (OpenSpec.upto mergeAnySpec)

/-- 'ravelinlaw13.MergeCleans', WHERE WHAT IT READS IS OF BULK AT MOST 1048576: true; the input reads as it did. -/
def mergeCleansUptoRow : OpenClaim := { program := "ytacnieopbkeoiaa", sum := "5a98d99d58f04c0f5adde3b7f3498348b931bee1cf8c66f45e276b275e75add9", func := "ravelin/ravelinlaw13.MergeCleans", spec := "mergeCleans", unfollowed := true, recurses := true, apart := false, narrowed := true }
def MergeCleansUptoSaid : Prop := mergeCleansUptoRow.holds Try.pinned (OpenSpec.upto mergeCleansSpec)

/-- 'ravelinlaw13.MergeDirties', WHERE WHAT IT READS IS OF BULK AT MOST 1048576: true; the input reads as it did. -/
def mergeDirtiesUptoRow : OpenClaim := { program := "ytacnieopbkeoiaa", sum := "5a98d99d58f04c0f5adde3b7f3498348b931bee1cf8c66f45e276b275e75add9", func := "ravelin/ravelinlaw13.MergeDirties", spec := "mergeDirties", unfollowed := true, recurses := true, apart := false, narrowed := true }
def MergeDirtiesUptoSaid : Prop := mergeDirtiesUptoRow.holds Try.pinned (OpenSpec.upto mergeDirtiesSpec)

/-- 'ravelinlaw13.MergeSides', WHERE WHAT IT READS IS OF BULK AT MOST 1048576: true; the input reads as it did. -/
def mergeSidesUptoRow : OpenClaim := { program := "ytacnieopbkeoiaa", sum := "5a98d99d58f04c0f5adde3b7f3498348b931bee1cf8c66f45e276b275e75add9", func := "ravelin/ravelinlaw13.MergeSides", spec := "mergeSides", unfollowed := true, recurses := true, apart := false, narrowed := true }
def MergeSidesUptoSaid : Prop := mergeSidesUptoRow.holds Try.pinned (OpenSpec.upto mergeSidesSpec)

/-- 'ravelinlaw11.CachePlays', WHERE WHAT IT READS IS OF BULK AT MOST 1048576: true; the input reads as it did. -/
def cachePlaysUptoRow : OpenClaim := { program := "ytacnieopbkeoiaa", sum := "5a98d99d58f04c0f5adde3b7f3498348b931bee1cf8c66f45e276b275e75add9", func := "ravelin/ravelinlaw11.CachePlays", spec := "cachePlays", unfollowed := true, recurses := true, apart := false, narrowed := true }
def CachePlaysUptoSaid : Prop := cachePlaysUptoRow.holds Try.pinned (OpenSpec.upto cachePlaysSpec)

/-- 'ravelinlaw11.CacheDrains', WHERE WHAT IT READS IS OF BULK AT MOST 1048576: true; the input reads as it did. -/
def cacheDrainsUptoRow : OpenClaim := { program := "ytacnieopbkeoiaa", sum := "5a98d99d58f04c0f5adde3b7f3498348b931bee1cf8c66f45e276b275e75add9", func := "ravelin/ravelinlaw11.CacheDrains", spec := "cacheDrains", unfollowed := true, recurses := true, apart := false, narrowed := true }
def CacheDrainsUptoSaid : Prop := cacheDrainsUptoRow.holds Try.pinned (OpenSpec.upto cacheDrainsSpec)

/-- 'ravelinlaw11.CacheNil', WHERE WHAT IT READS IS OF BULK AT MOST 1048576: true; the input reads as it did. -/
def cacheNilUptoRow : OpenClaim := { program := "ytacnieopbkeoiaa", sum := "5a98d99d58f04c0f5adde3b7f3498348b931bee1cf8c66f45e276b275e75add9", func := "ravelin/ravelinlaw11.CacheNil", spec := "cacheNil", unfollowed := true, recurses := true, apart := false, narrowed := true }
def CacheNilUptoSaid : Prop := cacheNilUptoRow.holds Try.pinned (OpenSpec.upto cacheNilSpec)

/-- 'ravelinlaw13.MergeEpochs', WHERE WHAT IT READS IS OF BULK AT MOST 1048576: true; the input reads as it did. -/
def mergeEpochsUptoRow : OpenClaim := { program := "ytacnieopbkeoiaa", sum := "5a98d99d58f04c0f5adde3b7f3498348b931bee1cf8c66f45e276b275e75add9", func := "ravelin/ravelinlaw13.MergeEpochs", spec := "mergeEpochs", unfollowed := true, recurses := true, apart := false, narrowed := true }
def MergeEpochsUptoSaid : Prop := mergeEpochsUptoRow.holds Try.pinned (OpenSpec.upto mergeEpochsSpec)

end Rows
end Go.Proofs.Ytacnieopbkeoiaa
