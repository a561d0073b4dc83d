/-
  No cell of these rows narrows 'for every input' (looked for: loops, veiled, ifaces, maps, wideKeys, modest, calm, conditions, laid).
  DERIVED. THE GIVEN ROWS OF THIS SEAT. 10 by the template 'for every input the law returns true; each argument reads behind the call as it read before'; 0 by the template 'total and deterministic' (their statements: YtdeaollkgckppaaTotals.lean).
  GIVEN WITH THE SEED: the statements are not yours to turn. If you find one false, say at which input.
  Laid BY PROGRAM, IN A SANDBOX (cutbox-rows.mjs): the forced cells as the released guide's own fill.sh prints them over the translation 476f433a8e316341… (all of the seat's roots in one cut). By AI agents, Wed Nov 11 2026. No macro, syntax, notation, axiom, sorry.
-/
import Derived.Test.YtdeaollkgckppaaChecked
import GoSem.Claim
import GoSem.ClaimJoined
import GoSem.ClaimMapViews
import Derived.JoinedTies
import Derived.KernelRfl
namespace Go.Proofs.Ytdeaollkgckppaa
/- THE CELL 'sum', in the pinned program and in every row, IS THE sha256 OF THE DUMP (.gsa) THAT YtdeaollkgckppaaProg.lean LOADS. Nothing in Lean hashes anything: it is a label: what it is worth is what the hold of that sum in a sandbox is worth. -/
noncomputable def Try.pinned : Pinned := { name := "ytdeaollkgckppaa", sum := "476f433a8e31634164c9afbb199affdc100bf0047d31ab8147444c641dacd916", checked := Try.checked }
namespace Rows
def none {H : Type} : Left H := { results := [], args := [] }

/-- 'ravelinlaw09.StripeCells': WHATEVER THE INPUT: true; the input reads as it did. -/
def stripeCellsSpec : ChangeSpec := { name := "stripeCells", fn := fun _ => fun
  | [d1, d2, d3, d4, d5] => { results := [.lit (.bool true)], args := [d1, d2, d3, d4, d5] }
  | _ => none }
def stripeCellsRow : OpenClaim := { program := "ytdeaollkgckppaa", sum := "476f433a8e31634164c9afbb199affdc100bf0047d31ab8147444c641dacd916", func := "ravelin/ravelinlaw09.StripeCells", spec := "stripeCells", inPlace := ["sync/atomic.LoadUint32", "sync/atomic.LoadInt64", "sync/atomic.StoreInt64", "sync/atomic.StoreUint32", "sync/atomic.AddInt64"], apart := false }
def StripeCellsSaid : Prop := stripeCellsRow.holds Try.pinned (OpenSpec.ofChange stripeCellsSpec)

/-- ITS FALSE NEIGHBOUR: 'it returns false'. Refute it at one input. -/
def stripeCellsWrong : ChangeSpec := { name := "stripeCells", fn := fun _ => fun
  | [d1, d2, d3, d4, d5] => { results := [.lit (.bool false)], args := [d1, d2, d3, d4, d5] }
  | _ => none }
def StripeCellsWrongFalsely : Prop := stripeCellsRow.holds Try.pinned (OpenSpec.ofChange stripeCellsWrong)

/-- 'ravelinlaw09.StripeTwo': WHATEVER THE INPUT: true; the input reads as it did. -/
def stripeTwoSpec : ChangeSpec := { name := "stripeTwo", fn := fun _ => fun
  | [d1, d2, d3, d4, d5, d6, d7, d8] => { results := [.lit (.bool true)], args := [d1, d2, d3, d4, d5, d6, d7, d8] }
  | _ => none }
def stripeTwoRow : OpenClaim := { program := "ytdeaollkgckppaa", sum := "476f433a8e31634164c9afbb199affdc100bf0047d31ab8147444c641dacd916", func := "ravelin/ravelinlaw09.StripeTwo", spec := "stripeTwo", inPlace := ["sync/atomic.LoadUint32", "sync/atomic.LoadInt64", "sync/atomic.StoreInt64", "sync/atomic.StoreUint32", "sync/atomic.AddInt64"], apart := false }
def StripeTwoSaid : Prop := stripeTwoRow.holds Try.pinned (OpenSpec.ofChange stripeTwoSpec)

/-- ITS FALSE NEIGHBOUR: 'it returns false'. Refute it at one input. -/
def stripeTwoWrong : ChangeSpec := { name := "stripeTwo", fn := fun _ => fun
  | [d1, d2, d3, d4, d5, d6, d7, d8] => { results := [.lit (.bool false)], args := [d1, d2, d3, d4, d5, d6, d7, d8] }
  | _ => none }
def StripeTwoWrongFalsely : Prop := stripeTwoRow.holds Try.pinned (OpenSpec.ofChange stripeTwoWrong)

/-- 'ravelinlaw09.StripeRows': WHATEVER THE INPUT: true; the input reads as it did. -/
def stripeRowsSpec : ChangeSpec := { name := "stripeRows", fn := fun _ => fun
  | [d1, d2, d3, d4, d5, d6, d7] => { results := [.lit (.bool true)], args := [d1, d2, d3, d4, d5, d6, d7] }
  | _ => none }
def stripeRowsRow : OpenClaim := { program := "ytdeaollkgckppaa", sum := "476f433a8e31634164c9afbb199affdc100bf0047d31ab8147444c641dacd916", func := "ravelin/ravelinlaw09.StripeRows", spec := "stripeRows", inPlace := ["sync/atomic.LoadUint32", "sync/atomic.LoadInt64", "sync/atomic.StoreInt64", "sync/atomic.StoreUint32", "sync/atomic.AddInt64"], apart := false }
def StripeRowsSaid : Prop := stripeRowsRow.holds Try.pinned (OpenSpec.ofChange stripeRowsSpec)

/-- ITS FALSE NEIGHBOUR: 'it returns false'. Refute it at one input. -/
def stripeRowsWrong : ChangeSpec := { name := "stripeRows", fn := fun _ => fun
  | [d1, d2, d3, d4, d5, d6, d7] => { results := [.lit (.bool false)], args := [d1, d2, d3, d4, d5, d6, d7] }
  | _ => none }
def StripeRowsWrongFalsely : Prop := stripeRowsRow.holds Try.pinned (OpenSpec.ofChange stripeRowsWrong)

/-- 'ravelinlaw09.StripeFences': WHATEVER THE INPUT: true; the input reads as it did. -/
def stripeFencesSpec : ChangeSpec := { name := "stripeFences", fn := fun _ => fun
  | [d1, d2, d3, d4, d5, d6, d7] => { results := [.lit (.bool true)], args := [d1, d2, d3, d4, d5, d6, d7] }
  | _ => none }
def stripeFencesRow : OpenClaim := { program := "ytdeaollkgckppaa", sum := "476f433a8e31634164c9afbb199affdc100bf0047d31ab8147444c641dacd916", func := "ravelin/ravelinlaw09.StripeFences", spec := "stripeFences", inPlace := ["sync/atomic.LoadUint32", "sync/atomic.LoadInt64", "sync/atomic.StoreInt64", "sync/atomic.StoreUint32", "sync/atomic.AddInt64"], apart := false }
def StripeFencesSaid : Prop := stripeFencesRow.holds Try.pinned (OpenSpec.ofChange stripeFencesSpec)

/-- ITS FALSE NEIGHBOUR: 'it returns false'. Refute it at one input. -/
def stripeFencesWrong : ChangeSpec := { name := "stripeFences", fn := fun _ => fun
  | [d1, d2, d3, d4, d5, d6, d7] => { results := [.lit (.bool false)], args := [d1, d2, d3, d4, d5, d6, d7] }
  | _ => none }
def StripeFencesWrongFalsely : Prop := stripeFencesRow.holds Try.pinned (OpenSpec.ofChange stripeFencesWrong)

/-- 'ravelinlaw09.StripeForms': WHATEVER THE INPUT: true; the input reads as it did. -/
def stripeFormsSpec : ChangeSpec := { name := "stripeForms", fn := fun _ => fun
  | [d1, d2, d3, d4] => { results := [.lit (.bool true)], args := [d1, d2, d3, d4] }
  | _ => none }
def stripeFormsRow : OpenClaim := { program := "ytdeaollkgckppaa", sum := "476f433a8e31634164c9afbb199affdc100bf0047d31ab8147444c641dacd916", func := "ravelin/ravelinlaw09.StripeForms", spec := "stripeForms", inPlace := ["sync/atomic.LoadUint32", "sync/atomic.LoadInt64", "sync/atomic.StoreInt64", "sync/atomic.StoreUint32", "sync/atomic.AddInt64"], apart := false }
def StripeFormsSaid : Prop := stripeFormsRow.holds Try.pinned (OpenSpec.ofChange stripeFormsSpec)

/-- ITS FALSE NEIGHBOUR: 'it returns false'. Refute it at one input. -/
def stripeFormsWrong : ChangeSpec := { name := "stripeForms", fn := fun _ => fun
  | [d1, d2, d3, d4] => { results := [.lit (.bool false)], args := [d1, d2, d3, d4] }
  | _ => none }
def StripeFormsWrongFalsely : Prop := stripeFormsRow.holds Try.pinned (OpenSpec.ofChange stripeFormsWrong)

/-- 'ravelinlaw09.StripeNever': WHATEVER THE INPUT: true; the input reads as it did. -/
def stripeNeverSpec : ChangeSpec := { name := "stripeNever", fn := fun _ => fun
  | [d1, d2, d3, d4] => { results := [.lit (.bool true)], args := [d1, d2, d3, d4] }
  | _ => none }
def stripeNeverRow : OpenClaim := { program := "ytdeaollkgckppaa", sum := "476f433a8e31634164c9afbb199affdc100bf0047d31ab8147444c641dacd916", func := "ravelin/ravelinlaw09.StripeNever", spec := "stripeNever", inPlace := ["sync/atomic.LoadUint32", "sync/atomic.LoadInt64", "sync/atomic.StoreInt64", "sync/atomic.StoreUint32", "sync/atomic.AddInt64"], apart := false }
def StripeNeverSaid : Prop := stripeNeverRow.holds Try.pinned (OpenSpec.ofChange stripeNeverSpec)

/-- ITS FALSE NEIGHBOUR: 'it returns false'. Refute it at one input. -/
def stripeNeverWrong : ChangeSpec := { name := "stripeNever", fn := fun _ => fun
  | [d1, d2, d3, d4] => { results := [.lit (.bool false)], args := [d1, d2, d3, d4] }
  | _ => none }
def StripeNeverWrongFalsely : Prop := stripeNeverRow.holds Try.pinned (OpenSpec.ofChange stripeNeverWrong)

/-- 'ravelinlaw16.ScrubMends': WHATEVER THE INPUT: true; the input reads as it did. -/
def scrubMendsSpec : ChangeSpec := { name := "scrubMends", fn := fun _ => fun
  | [d1, d2, d3, d4, d5] => { results := [.lit (.bool true)], args := [d1, d2, d3, d4, d5] }
  | _ => none }
def scrubMendsRow : OpenClaim := { program := "ytdeaollkgckppaa", sum := "476f433a8e31634164c9afbb199affdc100bf0047d31ab8147444c641dacd916", func := "ravelin/ravelinlaw16.ScrubMends", spec := "scrubMends", inPlace := ["sync/atomic.LoadUint32", "sync/atomic.LoadInt64", "sync/atomic.StoreInt64", "sync/atomic.StoreUint32", "sync/atomic.AddInt64"], unfollowed := true, recurses := true, apart := false }
def ScrubMendsSaid : Prop := scrubMendsRow.holds Try.pinned (OpenSpec.ofChange scrubMendsSpec)

/-- ITS FALSE NEIGHBOUR: 'it returns false'. Refute it at one input. -/
def scrubMendsWrong : ChangeSpec := { name := "scrubMends", fn := fun _ => fun
  | [d1, d2, d3, d4, d5] => { results := [.lit (.bool false)], args := [d1, d2, d3, d4, d5] }
  | _ => none }
def ScrubMendsWrongFalsely : Prop := scrubMendsRow.holds Try.pinned (OpenSpec.ofChange scrubMendsWrong)

/-- 'ravelinlaw16.ScrubRebuilds': WHATEVER THE INPUT: true; the input reads as it did. -/
def scrubRebuildsSpec : ChangeSpec := { name := "scrubRebuilds", fn := fun _ => fun
  | [d1, d2, d3, d4, d5, d6, d7] => { results := [.lit (.bool true)], args := [d1, d2, d3, d4, d5, d6, d7] }
  | _ => none }
def scrubRebuildsRow : OpenClaim := { program := "ytdeaollkgckppaa", sum := "476f433a8e31634164c9afbb199affdc100bf0047d31ab8147444c641dacd916", func := "ravelin/ravelinlaw16.ScrubRebuilds", spec := "scrubRebuilds", inPlace := ["sync/atomic.LoadUint32", "sync/atomic.LoadInt64", "sync/atomic.StoreInt64", "sync/atomic.StoreUint32", "sync/atomic.AddInt64"], unfollowed := true, recurses := true, apart := false }
def ScrubRebuildsSaid : Prop := scrubRebuildsRow.holds Try.pinned (OpenSpec.ofChange scrubRebuildsSpec)

/-- ITS FALSE NEIGHBOUR: 'it returns false'. Refute it at one input. -/
def scrubRebuildsWrong : ChangeSpec := { name := "scrubRebuilds", fn := fun _ => fun
  | [d1, d2, d3, d4, d5, d6, d7] => { results := [.lit (.bool false)], args := [d1, d2, d3, d4, d5, d6, d7] }
  | _ => none }
def ScrubRebuildsWrongFalsely : Prop := scrubRebuildsRow.holds Try.pinned (OpenSpec.ofChange scrubRebuildsWrong)

/-- 'ravelinlaw16.ScrubStill': WHATEVER THE INPUT: true; the input reads as it did. -/
def scrubStillSpec : ChangeSpec := { name := "scrubStill", fn := fun _ => fun
  | [d1, d2, d3, d4, d5, d6, d7] => { results := [.lit (.bool true)], args := [d1, d2, d3, d4, d5, d6, d7] }
  | _ => none }
def scrubStillRow : OpenClaim := { program := "ytdeaollkgckppaa", sum := "476f433a8e31634164c9afbb199affdc100bf0047d31ab8147444c641dacd916", func := "ravelin/ravelinlaw16.ScrubStill", spec := "scrubStill", inPlace := ["sync/atomic.LoadUint32", "sync/atomic.LoadInt64", "sync/atomic.StoreInt64", "sync/atomic.StoreUint32", "sync/atomic.AddInt64"], unfollowed := true, recurses := true, apart := false }
def ScrubStillSaid : Prop := scrubStillRow.holds Try.pinned (OpenSpec.ofChange scrubStillSpec)

/-- ITS FALSE NEIGHBOUR: 'it returns false'. Refute it at one input. -/
def scrubStillWrong : ChangeSpec := { name := "scrubStill", fn := fun _ => fun
  | [d1, d2, d3, d4, d5, d6, d7] => { results := [.lit (.bool false)], args := [d1, d2, d3, d4, d5, d6, d7] }
  | _ => none }
def ScrubStillWrongFalsely : Prop := scrubStillRow.holds Try.pinned (OpenSpec.ofChange scrubStillWrong)

/-- 'ravelinlaw16.ScrubLost': WHATEVER THE INPUT: true; the input reads as it did. -/
def scrubLostSpec : ChangeSpec := { name := "scrubLost", fn := fun _ => fun
  | [d1, d2, d3, d4] => { results := [.lit (.bool true)], args := [d1, d2, d3, d4] }
  | _ => none }
def scrubLostRow : OpenClaim := { program := "ytdeaollkgckppaa", sum := "476f433a8e31634164c9afbb199affdc100bf0047d31ab8147444c641dacd916", func := "ravelin/ravelinlaw16.ScrubLost", spec := "scrubLost", inPlace := ["sync/atomic.LoadUint32", "sync/atomic.LoadInt64", "sync/atomic.StoreInt64", "sync/atomic.StoreUint32", "sync/atomic.AddInt64"], unfollowed := true, recurses := true, apart := false }
def ScrubLostSaid : Prop := scrubLostRow.holds Try.pinned (OpenSpec.ofChange scrubLostSpec)

/-- ITS FALSE NEIGHBOUR: 'it returns false'. Refute it at one input. -/
def scrubLostWrong : ChangeSpec := { name := "scrubLost", fn := fun _ => fun
  | [d1, d2, d3, d4] => { results := [.lit (.bool false)], args := [d1, d2, d3, d4] }
  | _ => none }
def ScrubLostWrongFalsely : Prop := scrubLostRow.holds Try.pinned (OpenSpec.ofChange scrubLostWrong)

/- THE SECOND FORM. 'bulk': how many values and letters a reading holds, each counted each time it is reached (what is shared counts as often as it is met; a slice's spare places count too). A statement '..UptoSaid' is the law's where the arguments, and the package variables that the reading takes, are together of bulk at most 1048576: NARROWER than '..Said'. Prove '..Said' where nothing that the law and all that it calls make is longer than what came in: it says more and counts as full. Else prove '..UptoSaid'. A law counts once. -/
mutual
def uptoBulk {H : Type} : DataW H → Nat
  | .lit (.string bytes) => bytes.length + 1
  | .lit _ => 1
  | .nil => 1
  | .ptr d => uptoBulk d + 1
  | .slice elems spare => uptoBulkAll elems + uptoBulkAll spare + 1
  | .agg parts => uptoBulkAll parts + 1
  | .iface _ d => uptoBulk d + 1
  | .map entries => uptoBulkEntries entries + 1
  | .held _ => 1
def uptoBulkAll {H : Type} : List (DataW H) → Nat
  | [] => 0
  | d :: r => uptoBulk d + uptoBulkAll r
def uptoBulkEntries {H : Type} : List (Lit × DataW H) → Nat
  | [] => 0
  | x :: r => uptoBulkEntry x + uptoBulkEntries r
def uptoBulkEntry {H : Type} : Lit × DataW H → Nat
  | (.string bytes, d) => bytes.length + uptoBulk d + 1
  | (_, d) => uptoBulk d + 1
 end
def uptoSmall : (H : Type) → List (DataW H) → Bool := fun _ ds => decide (uptoBulkAll ds ≤ 1048576)
def OpenSpec.upto (s : _root_.Go.ChangeSpec) : _root_.Go.OpenSpec := { _root_.Go.OpenSpec.ofChange s with cond := some uptoSmall }

/-- 'ravelinlaw09.StripeCells', WHERE WHAT IT READS IS OF BULK AT MOST 1048576: true; the input reads as it did. -/
def stripeCellsUptoRow : OpenClaim := { program := "ytdeaollkgckppaa", sum := "476f433a8e31634164c9afbb199affdc100bf0047d31ab8147444c641dacd916", func := "ravelin/ravelinlaw09.StripeCells", spec := "stripeCells", inPlace := ["sync/atomic.LoadUint32", "sync/atomic.LoadInt64", "sync/atomic.StoreInt64", "sync/atomic.StoreUint32", "sync/atomic.AddInt64"], apart := false, narrowed := true }
def StripeCellsUptoSaid : Prop := stripeCellsUptoRow.holds Try.pinned (OpenSpec.upto stripeCellsSpec)

/-- 'ravelinlaw09.StripeTwo', WHERE WHAT IT READS IS OF BULK AT MOST 1048576: true; the input reads as it did. -/
def stripeTwoUptoRow : OpenClaim := { program := "ytdeaollkgckppaa", sum := "476f433a8e31634164c9afbb199affdc100bf0047d31ab8147444c641dacd916", func := "ravelin/ravelinlaw09.StripeTwo", spec := "stripeTwo", inPlace := ["sync/atomic.LoadUint32", "sync/atomic.LoadInt64", "sync/atomic.StoreInt64", "sync/atomic.StoreUint32", "sync/atomic.AddInt64"], apart := false, narrowed := true }
def StripeTwoUptoSaid : Prop := stripeTwoUptoRow.holds Try.pinned (OpenSpec.upto stripeTwoSpec)

/-- 'ravelinlaw09.StripeRows', WHERE WHAT IT READS IS OF BULK AT MOST 1048576: true; the input reads as it did. -/
def stripeRowsUptoRow : OpenClaim := { program := "ytdeaollkgckppaa", sum := "476f433a8e31634164c9afbb199affdc100bf0047d31ab8147444c641dacd916", func := "ravelin/ravelinlaw09.StripeRows", spec := "stripeRows", inPlace := ["sync/atomic.LoadUint32", "sync/atomic.LoadInt64", "sync/atomic.StoreInt64", "sync/atomic.StoreUint32", "sync/atomic.AddInt64"], apart := false, narrowed := true }
def StripeRowsUptoSaid : Prop := stripeRowsUptoRow.holds Try.pinned (OpenSpec.upto stripeRowsSpec)

/-- 'ravelinlaw09.StripeFences', WHERE WHAT IT READS IS OF BULK AT MOST 1048576: true; the input reads as it did. -/
def stripeFencesUptoRow : OpenClaim := { program := "ytdeaollkgckppaa", sum := "476f433a8e31634164c9afbb199affdc100bf0047d31ab8147444c641dacd916", func := "ravelin/ravelinlaw09.StripeFences", spec := "stripeFences", inPlace := ["sync/atomic.LoadUint32", "sync/atomic.LoadInt64", "sync/atomic.StoreInt64", "sync/atomic.StoreUint32", "sync/atomic.AddInt64"], apart := false, narrowed := true }
def StripeFencesUptoSaid : Prop := stripeFencesUptoRow.holds Try.pinned (OpenSpec.upto stripeFencesSpec)

/-- 'ravelinlaw09.StripeForms', WHERE WHAT IT READS IS OF BULK AT MOST 1048576: true; the input reads as it did. -/
def stripeFormsUptoRow : OpenClaim := { program := "ytdeaollkgckppaa", sum := "476f433a8e31634164c9afbb199affdc100bf0047d31ab8147444c641dacd916", func := "ravelin/ravelinlaw09.StripeForms", spec := "stripeForms", inPlace := ["sync/atomic.LoadUint32", "sync/atomic.LoadInt64", "sync/atomic.StoreInt64", "sync/atomic.StoreUint32", "sync/atomic.AddInt64"], apart := false, narrowed := true }
def StripeFormsUptoSaid : Prop := stripeFormsUptoRow.holds Try.pinned (OpenSpec.upto stripeFormsSpec)

/-- 'ravelinlaw09.StripeNever', WHERE WHAT IT READS IS OF BULK AT MOST 1048576: true; the input reads as it did. -/
def stripeNeverUptoRow : OpenClaim := { program := "ytdeaollkgckppaa", sum := "476f433a8e31634164c9afbb199affdc100bf0047d31ab8147444c641dacd916", func := "ravelin/ravelinlaw09.StripeNever", spec := "stripeNever", inPlace := ["sync/atomic.LoadUint32", "sync/atomic.LoadInt64", "sync/atomic.StoreInt64", "sync/atomic.StoreUint32", "sync/atomic.AddInt64"], apart := false, narrowed := true }
def StripeNeverUptoSaid : Prop := stripeNeverUptoRow.holds Try.pinned (OpenSpec.upto stripeNeverSpec)

/-- 'ravelinlaw16.ScrubMends', WHERE WHAT IT READS IS OF BULK AT MOST 1048576: true; the input reads as it did. -/
def scrubMendsUptoRow : OpenClaim := { program := "ytdeaollkgckppaa", sum := "476f433a8e31634164c9afbb199affdc100bf0047d31ab8147444c641dacd916", func := "ravelin/ravelinlaw16.ScrubMends", spec := "scrubMends", inPlace := ["sync/atomic.LoadUint32", "sync/atomic.LoadInt64", "sync/atomic.StoreInt64", "sync/atomic.StoreUint32", "sync/atomic.AddInt64"], unfollowed := true, recurses := true, apart := false, narrowed := true }
def ScrubMendsUptoSaid : Prop := scrubMendsUptoRow.holds Try.pinned (OpenSpec.upto scrubMendsSpec)

/-- 'ravelinlaw16.ScrubRebuilds', WHERE WHAT IT READS IS OF BULK AT MOST 1048576: true; the input reads as it did. -/
def scrubRebuildsUptoRow : OpenClaim := { program := "ytdeaollkgckppaa", sum := "476f433a8e31634164c9afbb199affdc100bf0047d31ab8147444c641dacd916", func := "ravelin/ravelinlaw16.ScrubRebuilds", spec := "scrubRebuilds", inPlace := ["sync/atomic.LoadUint32", "sync/atomic.LoadInt64", "sync/atomic.StoreInt64", "sync/atomic.StoreUint32", "sync/atomic.AddInt64"], unfollowed := true, recurses := true, apart := false, narrowed := true }
def ScrubRebuildsUptoSaid : Prop := scrubRebuildsUptoRow.holds Try.pinned (OpenSpec.upto scrubRebuildsSpec)

/-- 'ravelinlaw16.ScrubStill', WHERE WHAT IT READS IS OF BULK AT MOST 1048576: true; the input reads as it did. -/
def scrubStillUptoRow : OpenClaim := { program := "ytdeaollkgckppaa", sum := "476f433a8e31634164c9afbb199affdc100bf0047d31ab8147444c641dacd916", func := "ravelin/ravelinlaw16.ScrubStill", spec := "scrubStill", inPlace := ["sync/atomic.LoadUint32", "sync/atomic.LoadInt64", "sync/atomic.StoreInt64", "sync/atomic.StoreUint32", "sync/atomic.AddInt64"], unfollowed := true, recurses := true, apart := false, narrowed := true }
def ScrubStillUptoSaid : Prop := scrubStillUptoRow.holds Try.pinned (OpenSpec.upto scrubStillSpec)

/-- 'ravelinlaw16.ScrubLost', WHERE WHAT IT READS IS OF BULK AT MOST 1048576: true; the input reads as it did. -/
def scrubLostUptoRow : OpenClaim := { program := "ytdeaollkgckppaa", sum := "476f433a8e31634164c9afbb199affdc100bf0047d31ab8147444c641dacd916", func := "ravelin/ravelinlaw16.ScrubLost", spec := "scrubLost", inPlace := ["sync/atomic.LoadUint32", "sync/atomic.LoadInt64", "sync/atomic.StoreInt64", "sync/atomic.StoreUint32", "sync/atomic.AddInt64"], unfollowed := true, recurses := true, apart := false, narrowed := true }
def ScrubLostUptoSaid : Prop := scrubLostUptoRow.holds Try.pinned (OpenSpec.upto scrubLostSpec)

end Rows
end Go.Proofs.Ytdeaollkgckppaa
