/-
  No cell of these rows narrows 'for every input' (looked for: loops, veiled, ifaces, maps, wideKeys, modest, calm, conditions, laid).
  DERIVED. THE GIVEN ROWS OF THIS SEAT. 9 by the template 'for every input the law returns true; each argument reads behind the call as it read before'; 0 by the template 'total and deterministic' (their statements: YtdjlmpkjdgmkkaaTotals.lean).
  GIVEN WITH THE SEED: the statements are not yours to turn. If you find one false, say at which input.
  Laid BY PROGRAM, IN A SANDBOX (cutbox-rows.mjs): the forced cells as the released guide's own fill.sh prints them over the translation 79b8dc55d351cb5e… (all of the seat's roots in one cut). By AI agents, Wed Nov 11 2026. No macro, syntax, notation, axiom, sorry.
-/
import Derived.Test.YtdjlmpkjdgmkkaaChecked
import GoSem.Claim
import GoSem.ClaimJoined
import GoSem.ClaimMapViews
import Derived.JoinedTies
import Derived.KernelRfl
namespace Go.Proofs.Ytdjlmpkjdgmkkaa
/- THE CELL 'sum', in the pinned program and in every row, IS THE sha256 OF THE DUMP (.gsa) THAT YtdjlmpkjdgmkkaaProg.lean LOADS. Nothing in Lean hashes anything: it is a label: what it is worth is what the hold of that sum in a sandbox is worth. -/
noncomputable def Try.pinned : Pinned := { name := "ytdjlmpkjdgmkkaa", sum := "79b8dc55d351cb5eaae0b46ac757d4b64a750459f2b7f8fbc924356c90b09e0b", checked := Try.checked }
namespace Rows
def none {H : Type} : Left H := { results := [], args := [] }

/-- 'ravelinlaw21.HistoryChecks': WHATEVER THE INPUT: true; the input reads as it did. -/
def historyChecksSpec : ChangeSpec := { name := "historyChecks", fn := fun _ => fun
  | [d1, d2] => { results := [.lit (.bool true)], args := [d1, d2] }
  | _ => none }
def historyChecksRow : OpenClaim := { program := "ytdjlmpkjdgmkkaa", sum := "79b8dc55d351cb5eaae0b46ac757d4b64a750459f2b7f8fbc924356c90b09e0b", func := "ravelin/ravelinlaw21.HistoryChecks", spec := "historyChecks", unfollowed := true, recurses := true, plainKeys := false, apart := false }
def HistoryChecksSaid : Prop := historyChecksRow.holds Try.pinned (OpenSpec.ofChange historyChecksSpec)

/-- ITS FALSE NEIGHBOUR: 'it returns false'. Refute it at one input. -/
def historyChecksWrong : ChangeSpec := { name := "historyChecks", fn := fun _ => fun
  | [d1, d2] => { results := [.lit (.bool false)], args := [d1, d2] }
  | _ => none }
def HistoryChecksWrongFalsely : Prop := historyChecksRow.holds Try.pinned (OpenSpec.ofChange historyChecksWrong)

/-- 'ravelinlaw21.HistoryWider': WHATEVER THE INPUT: true; the input reads as it did. -/
def historyWiderSpec : ChangeSpec := { name := "historyWider", fn := fun _ => fun
  | [d1, d2, d3, d4, d5] => { results := [.lit (.bool true)], args := [d1, d2, d3, d4, d5] }
  | _ => none }
def historyWiderRow : OpenClaim := { program := "ytdjlmpkjdgmkkaa", sum := "79b8dc55d351cb5eaae0b46ac757d4b64a750459f2b7f8fbc924356c90b09e0b", func := "ravelin/ravelinlaw21.HistoryWider", spec := "historyWider", unfollowed := true, recurses := true, plainKeys := false, apart := false }
def HistoryWiderSaid : Prop := historyWiderRow.holds Try.pinned (OpenSpec.ofChange historyWiderSpec)

/-- ITS FALSE NEIGHBOUR: 'it returns false'. Refute it at one input. -/
def historyWiderWrong : ChangeSpec := { name := "historyWider", fn := fun _ => fun
  | [d1, d2, d3, d4, d5] => { results := [.lit (.bool false)], args := [d1, d2, d3, d4, d5] }
  | _ => none }
def HistoryWiderWrongFalsely : Prop := historyWiderRow.holds Try.pinned (OpenSpec.ofChange historyWiderWrong)

/-- 'ravelinlaw15.MemberBack': WHATEVER THE INPUT: true; the input reads as it did. -/
def memberBackSpec : ChangeSpec := { name := "memberBack", fn := fun _ => fun
  | [d1, d2, d3] => { results := [.lit (.bool true)], args := [d1, d2, d3] }
  | _ => none }
def memberBackRow : OpenClaim := { program := "ytdjlmpkjdgmkkaa", sum := "79b8dc55d351cb5eaae0b46ac757d4b64a750459f2b7f8fbc924356c90b09e0b", func := "ravelin/ravelinlaw15.MemberBack", spec := "memberBack", plainKeys := false, apart := false }
def MemberBackSaid : Prop := memberBackRow.holds Try.pinned (OpenSpec.ofChange memberBackSpec)

/-- ITS FALSE NEIGHBOUR: 'it returns false'. Refute it at one input. -/
def memberBackWrong : ChangeSpec := { name := "memberBack", fn := fun _ => fun
  | [d1, d2, d3] => { results := [.lit (.bool false)], args := [d1, d2, d3] }
  | _ => none }
def MemberBackWrongFalsely : Prop := memberBackRow.holds Try.pinned (OpenSpec.ofChange memberBackWrong)

/-- 'ravelinlaw15.MemberPlays': WHATEVER THE INPUT: true; the input reads as it did. -/
def memberPlaysSpec : ChangeSpec := { name := "memberPlays", fn := fun _ => fun
  | [d1, d2] => { results := [.lit (.bool true)], args := [d1, d2] }
  | _ => none }
def memberPlaysRow : OpenClaim := { program := "ytdjlmpkjdgmkkaa", sum := "79b8dc55d351cb5eaae0b46ac757d4b64a750459f2b7f8fbc924356c90b09e0b", func := "ravelin/ravelinlaw15.MemberPlays", spec := "memberPlays", plainKeys := false, apart := false }
def MemberPlaysSaid : Prop := memberPlaysRow.holds Try.pinned (OpenSpec.ofChange memberPlaysSpec)

/-- ITS FALSE NEIGHBOUR: 'it returns false'. Refute it at one input. -/
def memberPlaysWrong : ChangeSpec := { name := "memberPlays", fn := fun _ => fun
  | [d1, d2] => { results := [.lit (.bool false)], args := [d1, d2] }
  | _ => none }
def MemberPlaysWrongFalsely : Prop := memberPlaysRow.holds Try.pinned (OpenSpec.ofChange memberPlaysWrong)

/-- 'ravelinlaw15.MemberNil': WHATEVER THE INPUT: true; the input reads as it did. -/
def memberNilSpec : ChangeSpec := { name := "memberNil", fn := fun _ => fun
  | [d1, d2] => { results := [.lit (.bool true)], args := [d1, d2] }
  | _ => none }
def memberNilRow : OpenClaim := { program := "ytdjlmpkjdgmkkaa", sum := "79b8dc55d351cb5eaae0b46ac757d4b64a750459f2b7f8fbc924356c90b09e0b", func := "ravelin/ravelinlaw15.MemberNil", spec := "memberNil", plainKeys := false, apart := false }
def MemberNilSaid : Prop := memberNilRow.holds Try.pinned (OpenSpec.ofChange memberNilSpec)

/-- ITS FALSE NEIGHBOUR: 'it returns false'. Refute it at one input. -/
def memberNilWrong : ChangeSpec := { name := "memberNil", fn := fun _ => fun
  | [d1, d2] => { results := [.lit (.bool false)], args := [d1, d2] }
  | _ => none }
def MemberNilWrongFalsely : Prop := memberNilRow.holds Try.pinned (OpenSpec.ofChange memberNilWrong)

/-- 'ravelinlaw21.HistoryLasts': WHATEVER THE INPUT: true; the input reads as it did. -/
def historyLastsSpec : ChangeSpec := { name := "historyLasts", fn := fun _ => fun
  | [d1, d2] => { results := [.lit (.bool true)], args := [d1, d2] }
  | _ => none }
def historyLastsRow : OpenClaim := { program := "ytdjlmpkjdgmkkaa", sum := "79b8dc55d351cb5eaae0b46ac757d4b64a750459f2b7f8fbc924356c90b09e0b", func := "ravelin/ravelinlaw21.HistoryLasts", spec := "historyLasts", inPlace := ["internal/bytealg.Compare"], unfollowed := true, recurses := true, plainKeys := false, apart := false }
def HistoryLastsSaid : Prop := historyLastsRow.holds Try.pinned (OpenSpec.ofChange historyLastsSpec)

/-- ITS FALSE NEIGHBOUR: 'it returns false'. Refute it at one input. -/
def historyLastsWrong : ChangeSpec := { name := "historyLasts", fn := fun _ => fun
  | [d1, d2] => { results := [.lit (.bool false)], args := [d1, d2] }
  | _ => none }
def HistoryLastsWrongFalsely : Prop := historyLastsRow.holds Try.pinned (OpenSpec.ofChange historyLastsWrong)

/-- 'ravelinlaw21.HistorySteps': WHATEVER THE INPUT: true; the input reads as it did. -/
def historyStepsSpec : ChangeSpec := { name := "historySteps", fn := fun _ => fun
  | [d1, d2, d3, d4, d5] => { results := [.lit (.bool true)], args := [d1, d2, d3, d4, d5] }
  | _ => none }
def historyStepsRow : OpenClaim := { program := "ytdjlmpkjdgmkkaa", sum := "79b8dc55d351cb5eaae0b46ac757d4b64a750459f2b7f8fbc924356c90b09e0b", func := "ravelin/ravelinlaw21.HistorySteps", spec := "historySteps", inPlace := ["internal/bytealg.Compare"], unfollowed := true, recurses := true, plainKeys := false, apart := false }
def HistoryStepsSaid : Prop := historyStepsRow.holds Try.pinned (OpenSpec.ofChange historyStepsSpec)

/-- ITS FALSE NEIGHBOUR: 'it returns false'. Refute it at one input. -/
def historyStepsWrong : ChangeSpec := { name := "historySteps", fn := fun _ => fun
  | [d1, d2, d3, d4, d5] => { results := [.lit (.bool false)], args := [d1, d2, d3, d4, d5] }
  | _ => none }
def HistoryStepsWrongFalsely : Prop := historyStepsRow.holds Try.pinned (OpenSpec.ofChange historyStepsWrong)

/-- 'ravelinlaw21.HistoryOpens': WHATEVER THE INPUT: true; the input reads as it did. -/
def historyOpensSpec : ChangeSpec := { name := "historyOpens", fn := fun _ => fun
  | [d1, d2] => { results := [.lit (.bool true)], args := [d1, d2] }
  | _ => none }
def historyOpensRow : OpenClaim := { program := "ytdjlmpkjdgmkkaa", sum := "79b8dc55d351cb5eaae0b46ac757d4b64a750459f2b7f8fbc924356c90b09e0b", func := "ravelin/ravelinlaw21.HistoryOpens", spec := "historyOpens", inPlace := ["internal/bytealg.Compare"], unfollowed := true, recurses := true, plainKeys := false, apart := false }
def HistoryOpensSaid : Prop := historyOpensRow.holds Try.pinned (OpenSpec.ofChange historyOpensSpec)

/-- ITS FALSE NEIGHBOUR: 'it returns false'. Refute it at one input. -/
def historyOpensWrong : ChangeSpec := { name := "historyOpens", fn := fun _ => fun
  | [d1, d2] => { results := [.lit (.bool false)], args := [d1, d2] }
  | _ => none }
def HistoryOpensWrongFalsely : Prop := historyOpensRow.holds Try.pinned (OpenSpec.ofChange historyOpensWrong)

/-- 'ravelinlaw21.HistoryAny': WHATEVER THE INPUT: true; the input reads as it did. -/
def historyAnySpec : ChangeSpec := { name := "historyAny", fn := fun _ => fun
  | [d1, d2] => { results := [.lit (.bool true)], args := [d1, d2] }
  | _ => none }
def historyAnyRow : OpenClaim := { program := "ytdjlmpkjdgmkkaa", sum := "79b8dc55d351cb5eaae0b46ac757d4b64a750459f2b7f8fbc924356c90b09e0b", func := "ravelin/ravelinlaw21.HistoryAny", spec := "historyAny", inPlace := ["internal/bytealg.Compare"], unfollowed := true, recurses := true, plainKeys := false, apart := false }
def HistoryAnySaid : Prop := historyAnyRow.holds Try.pinned (OpenSpec.ofChange historyAnySpec)

/-- ITS FALSE NEIGHBOUR: 'it returns false'. Refute it at one input. -/
def historyAnyWrong : ChangeSpec := { name := "historyAny", fn := fun _ => fun
  | [d1, d2] => { results := [.lit (.bool false)], args := [d1, d2] }
  | _ => none }
def HistoryAnyWrongFalsely : Prop := historyAnyRow.holds Try.pinned (OpenSpec.ofChange historyAnyWrong)

/- THE SECOND FORM. 'bulk': how many values and letters a reading holds, each counted each time it is reached (what is shared counts as often as it is met; a slice's spare places count too). A statement '..UptoSaid' is the law's where the arguments, and the package variables that the reading takes, are together of bulk at most 1048576: NARROWER than '..Said'. Prove '..Said' where nothing that the law and all that it calls make is longer than what came in: it says more and counts as full. Else prove '..UptoSaid'. A law counts once. -/
mutual
def uptoBulk {H : Type} : DataW H → Nat
  | .lit (.string bytes) => bytes.length + 1
  | .lit _ => 1
  | .nil => 1
  | .ptr d => uptoBulk d + 1
  | .slice elems spare => uptoBulkAll elems + uptoBulkAll spare + 1
  | .agg parts => uptoBulkAll parts + 1
  | .iface _ d => uptoBulk d + 1
  | .map entries => uptoBulkEntries entries + 1
  | .held _ => 1
def uptoBulkAll {H : Type} : List (DataW H) → Nat
  | [] => 0
  | d :: r => uptoBulk d + uptoBulkAll r
def uptoBulkEntries {H : Type} : List (Lit × DataW H) → Nat
  | [] => 0
  | x :: r => uptoBulkEntry x + uptoBulkEntries r
def uptoBulkEntry {H : Type} : Lit × DataW H → Nat
  | (.string bytes, d) => bytes.length + uptoBulk d + 1
  | (_, d) => uptoBulk d + 1
 end
def uptoSmall : (H : Type) → List (DataW H) → Bool := fun _ ds => decide (uptoBulkAll ds ≤ 1048576)
def OpenSpec.upto (s : _root_.Go.ChangeSpec) : _root_.Go.OpenSpec := { _root_.Go.OpenSpec.ofChange s with cond := some uptoSmall }

/-- 'ravelinlaw21.HistoryChecks', WHERE WHAT IT READS IS OF BULK AT MOST 1048576: true; the input reads as it did. -/
def historyChecksUptoRow : OpenClaim := { program := "ytdjlmpkjdgmkkaa", sum := "79b8dc55d351cb5eaae0b46ac757d4b64a750459f2b7f8fbc924356c90b09e0b", func := "ravelin/ravelinlaw21.HistoryChecks", spec := "historyChecks", unfollowed := true, recurses := true, plainKeys := false, apart := false, narrowed := true }
def HistoryChecksUptoSaid : Prop := historyChecksUptoRow.holds Try.pinned (OpenSpec.upto historyChecksSpec)

/-- 'ravelinlaw21.HistoryWider', WHERE WHAT IT READS IS OF BULK AT MOST 1048576: true; the input reads as it did. -/
def historyWiderUptoRow : OpenClaim := { program := "ytdjlmpkjdgmkkaa", sum := "79b8dc55d351cb5eaae0b46ac757d4b64a750459f2b7f8fbc924356c90b09e0b", func := "ravelin/ravelinlaw21.HistoryWider", spec := "historyWider", unfollowed := true, recurses := true, plainKeys := false, apart := false, narrowed := true }
def HistoryWiderUptoSaid : Prop := historyWiderUptoRow.holds Try.pinned (OpenSpec.upto historyWiderSpec)

/-- 'ravelinlaw15.MemberBack', WHERE WHAT IT READS IS OF BULK AT MOST 1048576: true; the input reads as it did. -/
def memberBackUptoRow : OpenClaim := { program := "ytdjlmpkjdgmkkaa", sum := "79b8dc55d351cb5eaae0b46ac757d4b64a750459f2b7f8fbc924356c90b09e0b", func := "ravelin/ravelinlaw15.MemberBack", spec := "memberBack", plainKeys := false, apart := false, narrowed := true }
def MemberBackUptoSaid : Prop := memberBackUptoRow.holds Try.pinned (OpenSpec.upto memberBackSpec)

/-- 'ravelinlaw15.MemberPlays', WHERE WHAT IT READS IS OF BULK AT MOST 1048576: true; the input reads as it did. -/
def memberPlaysUptoRow : OpenClaim := { program := "ytdjlmpkjdgmkkaa", sum := "79b8dc55d351cb5eaae0b46ac757d4b64a750459f2b7f8fbc924356c90b09e0b", func := "ravelin/ravelinlaw15.MemberPlays", spec := "memberPlays", plainKeys := false, apart := false, narrowed := true }
def MemberPlaysUptoSaid : Prop := memberPlaysUptoRow.holds Try.pinned (OpenSpec.upto memberPlaysSpec)

/-- 'ravelinlaw15.MemberNil', WHERE WHAT IT READS IS OF BULK AT MOST 1048576: true; the input reads as it did. -/
def memberNilUptoRow : OpenClaim := { program := "ytdjlmpkjdgmkkaa", sum := "79b8dc55d351cb5eaae0b46ac757d4b64a750459f2b7f8fbc924356c90b09e0b", func := "ravelin/ravelinlaw15.MemberNil", spec := "memberNil", plainKeys := false, apart := false, narrowed := true }
def MemberNilUptoSaid : Prop := memberNilUptoRow.holds Try.pinned (OpenSpec.upto memberNilSpec)

/-- 'ravelinlaw21.HistoryLasts', WHERE WHAT IT READS IS OF BULK AT MOST 1048576: true; the input reads as it did. -/
def historyLastsUptoRow : OpenClaim := { program := "ytdjlmpkjdgmkkaa", sum := "79b8dc55d351cb5eaae0b46ac757d4b64a750459f2b7f8fbc924356c90b09e0b", func := "ravelin/ravelinlaw21.HistoryLasts", spec := "historyLasts", inPlace := ["internal/bytealg.Compare"], unfollowed := true, recurses := true, plainKeys := false, apart := false, narrowed := true }
def HistoryLastsUptoSaid : Prop := historyLastsUptoRow.holds Try.pinned (OpenSpec.upto historyLastsSpec)

/-- 'ravelinlaw21.HistorySteps', WHERE WHAT IT READS IS OF BULK AT MOST 1048576: true; the input reads as it did. -/
def historyStepsUptoRow : OpenClaim := { program := "ytdjlmpkjdgmkkaa", sum := "79b8dc55d351cb5eaae0b46ac757d4b64a750459f2b7f8fbc924356c90b09e0b", func := "ravelin/ravelinlaw21.HistorySteps", spec := "historySteps", inPlace := ["internal/bytealg.Compare"], unfollowed := true, recurses := true, plainKeys := false, apart := false, narrowed := true }
def HistoryStepsUptoSaid : Prop := historyStepsUptoRow.holds Try.pinned (OpenSpec.upto historyStepsSpec)

/-- 'ravelinlaw21.HistoryOpens', WHERE WHAT IT READS IS OF BULK AT MOST 1048576: true; the input reads as it did. -/
def historyOpensUptoRow : OpenClaim := { program := "ytdjlmpkjdgmkkaa", sum := "79b8dc55d351cb5eaae0b46ac757d4b64a750459f2b7f8fbc924356c90b09e0b", func := "ravelin/ravelinlaw21.HistoryOpens", spec := "historyOpens", inPlace := ["internal/bytealg.Compare"], unfollowed := true, recurses := true, plainKeys := false, apart := false, narrowed := true }
def HistoryOpensUptoSaid : Prop := historyOpensUptoRow.holds Try.pinned (OpenSpec.upto historyOpensSpec)

/-- 'ravelinlaw21.HistoryAny', WHERE WHAT IT READS IS OF BULK AT MOST 1048576: true; the input reads as it did. -/
def historyAnyUptoRow : OpenClaim := { program := "ytdjlmpkjdgmkkaa", sum := "79b8dc55d351cb5eaae0b46ac757d4b64a750459f2b7f8fbc924356c90b09e0b", func := "ravelin/ravelinlaw21.HistoryAny", spec := "historyAny", inPlace := ["internal/bytealg.Compare"], unfollowed := true, recurses := true, plainKeys := false, apart := false, narrowed := true }
def HistoryAnyUptoSaid : Prop := historyAnyUptoRow.holds Try.pinned (OpenSpec.upto historyAnySpec)

end Rows
end Go.Proofs.Ytdjlmpkjdgmkkaa
