/-
  No cell of these rows narrows 'for every input' (looked for: loops, veiled, ifaces, maps, wideKeys, modest, calm, conditions, laid).
  DERIVED. THE GIVEN ROWS OF THIS SEAT. 8 by the template 'for every input the law returns true; each argument reads behind the call as it read before'; 0 by the template 'total and deterministic' (their statements: YthibchaiaedboaaTotals.lean).
  GIVEN WITH THE SEED: the statements are not yours to turn. If you find one false, say at which input.
  Laid BY PROGRAM, IN A SANDBOX (cutbox-rows.mjs): the forced cells as the released guide's own fill.sh prints them over the translation 1c9df3b8fc2d0672… (all of the seat's roots in one cut). By AI agents, Wed Nov 11 2026. No macro, syntax, notation, axiom, sorry.
-/
import Derived.Test.YthibchaiaedboaaChecked
import GoSem.Claim
import GoSem.ClaimJoined
import GoSem.ClaimMapViews
import Derived.JoinedTies
import Derived.KernelRfl
namespace Go.Proofs.Ythibchaiaedboaa
/- THE CELL 'sum', in the pinned program and in every row, IS THE sha256 OF THE DUMP (.gsa) THAT YthibchaiaedboaaProg.lean LOADS. Nothing in Lean hashes anything: it is a label: what it is worth is what the hold of that sum in a sandbox is worth. -/
noncomputable def Try.pinned : Pinned := { name := "ythibchaiaedboaa", sum := "1c9df3b8fc2d067224704f0930d9ac2a905417f597c91c8a72d49561b9277326", checked := Try.checked }
namespace Rows
def none {H : Type} : Left H := { results := [], args := [] }

/-- 'laws.FnExactPutIssue': WHATEVER THE INPUT: true; the input reads as it did. -/
def fnExactPutIssueSpec : ChangeSpec := { name := "fnExactPutIssue", fn := fun _ => fun
  | [d1, d2] => { results := [.lit (.bool true)], args := [d1, d2] }
  | _ => none }
def fnExactPutIssueRow : OpenClaim := { program := "ythibchaiaedboaa", sum := "1c9df3b8fc2d067224704f0930d9ac2a905417f597c91c8a72d49561b9277326", func := "loop.example/g01060/laws.FnExactPutIssue", spec := "fnExactPutIssue", inPlace := ["slices.overlaps[loop.example/g01060/impl.Issue]"], unfollowed := true, recurses := true, apart := false }
def FnExactPutIssueSaid : Prop := fnExactPutIssueRow.holds Try.pinned (OpenSpec.ofChange fnExactPutIssueSpec)

/-- ITS FALSE NEIGHBOUR: 'it returns false'. Refute it at one input. -/
def fnExactPutIssueWrong : ChangeSpec := { name := "fnExactPutIssue", fn := fun _ => fun
  | [d1, d2] => { results := [.lit (.bool false)], args := [d1, d2] }
  | _ => none }
def FnExactPutIssueWrongFalsely : Prop := fnExactPutIssueRow.holds Try.pinned (OpenSpec.ofChange fnExactPutIssueWrong)

/-- 'laws.FnTrueDays': WHATEVER THE INPUT: true; the input reads as it did. -/
def fnTrueDaysSpec : ChangeSpec := { name := "fnTrueDays", fn := fun _ => fun
  | [d] => { results := [.lit (.bool true)], args := [d] }
  | _ => none }
def fnTrueDaysRow : OpenClaim := { program := "ythibchaiaedboaa", sum := "1c9df3b8fc2d067224704f0930d9ac2a905417f597c91c8a72d49561b9277326", func := "loop.example/g01060/laws.FnTrueDays", spec := "fnTrueDays", unfollowed := true, recurses := true, apart := false }
def FnTrueDaysSaid : Prop := fnTrueDaysRow.holds Try.pinned (OpenSpec.ofChange fnTrueDaysSpec)

/-- ITS FALSE NEIGHBOUR: 'it returns false'. Refute it at one input. -/
def fnTrueDaysWrong : ChangeSpec := { name := "fnTrueDays", fn := fun _ => fun
  | [d] => { results := [.lit (.bool false)], args := [d] }
  | _ => none }
def FnTrueDaysWrongFalsely : Prop := fnTrueDaysRow.holds Try.pinned (OpenSpec.ofChange fnTrueDaysWrong)

/-- 'laws.FnExactAddRepair': WHATEVER THE INPUT: true; the input reads as it did. -/
def fnExactAddRepairSpec : ChangeSpec := { name := "fnExactAddRepair", fn := fun _ => fun
  | [d1, d2, d3] => { results := [.lit (.bool true)], args := [d1, d2, d3] }
  | _ => none }
def fnExactAddRepairRow : OpenClaim := { program := "ythibchaiaedboaa", sum := "1c9df3b8fc2d067224704f0930d9ac2a905417f597c91c8a72d49561b9277326", func := "loop.example/g01060/laws.FnExactAddRepair", spec := "fnExactAddRepair", unfollowed := true, recurses := true, apart := false }
def FnExactAddRepairSaid : Prop := fnExactAddRepairRow.holds Try.pinned (OpenSpec.ofChange fnExactAddRepairSpec)

/-- ITS FALSE NEIGHBOUR: 'it returns false'. Refute it at one input. -/
def fnExactAddRepairWrong : ChangeSpec := { name := "fnExactAddRepair", fn := fun _ => fun
  | [d1, d2, d3] => { results := [.lit (.bool false)], args := [d1, d2, d3] }
  | _ => none }
def FnExactAddRepairWrongFalsely : Prop := fnExactAddRepairRow.holds Try.pinned (OpenSpec.ofChange fnExactAddRepairWrong)

/-- 'laws.FnExactMutualPairs': WHATEVER THE INPUT: true; the input reads as it did. -/
def fnExactMutualPairsSpec : ChangeSpec := { name := "fnExactMutualPairs", fn := fun _ => fun
  | [d] => { results := [.lit (.bool true)], args := [d] }
  | _ => none }
def fnExactMutualPairsRow : OpenClaim := { program := "ythibchaiaedboaa", sum := "1c9df3b8fc2d067224704f0930d9ac2a905417f597c91c8a72d49561b9277326", func := "loop.example/g01060/laws.FnExactMutualPairs", spec := "fnExactMutualPairs", unfollowed := true, recurses := true, apart := false }
def FnExactMutualPairsSaid : Prop := fnExactMutualPairsRow.holds Try.pinned (OpenSpec.ofChange fnExactMutualPairsSpec)

/-- ITS FALSE NEIGHBOUR: 'it returns false'. Refute it at one input. -/
def fnExactMutualPairsWrong : ChangeSpec := { name := "fnExactMutualPairs", fn := fun _ => fun
  | [d] => { results := [.lit (.bool false)], args := [d] }
  | _ => none }
def FnExactMutualPairsWrongFalsely : Prop := fnExactMutualPairsRow.holds Try.pinned (OpenSpec.ofChange fnExactMutualPairsWrong)

/-- 'laws.FnHeadings': WHATEVER THE INPUT: true; the input reads as it did. -/
def fnHeadingsSpec : ChangeSpec := { name := "fnHeadings", fn := fun _ => fun
  | [d] => { results := [.lit (.bool true)], args := [d] }
  | _ => none }
def fnHeadingsRow : OpenClaim := { program := "ythibchaiaedboaa", sum := "1c9df3b8fc2d067224704f0930d9ac2a905417f597c91c8a72d49561b9277326", func := "loop.example/g01060/laws.FnHeadings", spec := "fnHeadings", unfollowed := true, recurses := true, apart := false }
def FnHeadingsSaid : Prop := fnHeadingsRow.holds Try.pinned (OpenSpec.ofChange fnHeadingsSpec)

/-- ITS FALSE NEIGHBOUR: 'it returns false'. Refute it at one input. -/
def fnHeadingsWrong : ChangeSpec := { name := "fnHeadings", fn := fun _ => fun
  | [d] => { results := [.lit (.bool false)], args := [d] }
  | _ => none }
def FnHeadingsWrongFalsely : Prop := fnHeadingsRow.holds Try.pinned (OpenSpec.ofChange fnHeadingsWrong)

/-- 'laws.FnExactSeenFrom': WHATEVER THE INPUT: true; the input reads as it did. -/
def fnExactSeenFromSpec : ChangeSpec := { name := "fnExactSeenFrom", fn := fun _ => fun
  | [d1, d2, d3] => { results := [.lit (.bool true)], args := [d1, d2, d3] }
  | _ => none }
def fnExactSeenFromRow : OpenClaim := { program := "ythibchaiaedboaa", sum := "1c9df3b8fc2d067224704f0930d9ac2a905417f597c91c8a72d49561b9277326", func := "loop.example/g01060/laws.FnExactSeenFrom", spec := "fnExactSeenFrom", unfollowed := true, recurses := true, apart := false }
def FnExactSeenFromSaid : Prop := fnExactSeenFromRow.holds Try.pinned (OpenSpec.ofChange fnExactSeenFromSpec)

/-- ITS FALSE NEIGHBOUR: 'it returns false'. Refute it at one input. -/
def fnExactSeenFromWrong : ChangeSpec := { name := "fnExactSeenFrom", fn := fun _ => fun
  | [d1, d2, d3] => { results := [.lit (.bool false)], args := [d1, d2, d3] }
  | _ => none }
def FnExactSeenFromWrongFalsely : Prop := fnExactSeenFromRow.holds Try.pinned (OpenSpec.ofChange fnExactSeenFromWrong)

/-- 'laws.FnSeen': WHATEVER THE INPUT: true; the input reads as it did. -/
def fnSeenSpec : ChangeSpec := { name := "fnSeen", fn := fun _ => fun
  | [d] => { results := [.lit (.bool true)], args := [d] }
  | _ => none }
def fnSeenRow : OpenClaim := { program := "ythibchaiaedboaa", sum := "1c9df3b8fc2d067224704f0930d9ac2a905417f597c91c8a72d49561b9277326", func := "loop.example/g01060/laws.FnSeen", spec := "fnSeen", unfollowed := true, recurses := true, apart := false }
def FnSeenSaid : Prop := fnSeenRow.holds Try.pinned (OpenSpec.ofChange fnSeenSpec)

/-- ITS FALSE NEIGHBOUR: 'it returns false'. Refute it at one input. -/
def fnSeenWrong : ChangeSpec := { name := "fnSeen", fn := fun _ => fun
  | [d] => { results := [.lit (.bool false)], args := [d] }
  | _ => none }
def FnSeenWrongFalsely : Prop := fnSeenRow.holds Try.pinned (OpenSpec.ofChange fnSeenWrong)

/-- 'laws.FnExactTitleGroups': WHATEVER THE INPUT: true; the input reads as it did. -/
def fnExactTitleGroupsSpec : ChangeSpec := { name := "fnExactTitleGroups", fn := fun _ => fun
  | [d] => { results := [.lit (.bool true)], args := [d] }
  | _ => none }
def fnExactTitleGroupsRow : OpenClaim := { program := "ythibchaiaedboaa", sum := "1c9df3b8fc2d067224704f0930d9ac2a905417f597c91c8a72d49561b9277326", func := "loop.example/g01060/laws.FnExactTitleGroups", spec := "fnExactTitleGroups", unfollowed := true, recurses := true, apart := false }
def FnExactTitleGroupsSaid : Prop := fnExactTitleGroupsRow.holds Try.pinned (OpenSpec.ofChange fnExactTitleGroupsSpec)

/-- ITS FALSE NEIGHBOUR: 'it returns false'. Refute it at one input. -/
def fnExactTitleGroupsWrong : ChangeSpec := { name := "fnExactTitleGroups", fn := fun _ => fun
  | [d] => { results := [.lit (.bool false)], args := [d] }
  | _ => none }
def FnExactTitleGroupsWrongFalsely : Prop := fnExactTitleGroupsRow.holds Try.pinned (OpenSpec.ofChange fnExactTitleGroupsWrong)

/- THE SECOND FORM. 'bulk': how many values and letters a reading holds, each counted each time it is reached (what is shared counts as often as it is met; a slice's spare places count too). A statement '..UptoSaid' is the law's where the arguments, and the package variables that the reading takes, are together of bulk at most 1048576: NARROWER than '..Said'. Prove '..Said' where nothing that the law and all that it calls make is longer than what came in: it says more and counts as full. Else prove '..UptoSaid'. A law counts once. -/
mutual
def uptoBulk {H : Type} : DataW H → Nat
  | .lit (.string bytes) => bytes.length + 1
  | .lit _ => 1
  | .nil => 1
  | .ptr d => uptoBulk d + 1
  | .slice elems spare => uptoBulkAll elems + uptoBulkAll spare + 1
  | .agg parts => uptoBulkAll parts + 1
  | .iface _ d => uptoBulk d + 1
  | .map entries => uptoBulkEntries entries + 1
  | .held _ => 1
def uptoBulkAll {H : Type} : List (DataW H) → Nat
  | [] => 0
  | d :: r => uptoBulk d + uptoBulkAll r
def uptoBulkEntries {H : Type} : List (Lit × DataW H) → Nat
  | [] => 0
  | x :: r => uptoBulkEntry x + uptoBulkEntries r
def uptoBulkEntry {H : Type} : Lit × DataW H → Nat
  | (.string bytes, d) => bytes.length + uptoBulk d + 1
  | (_, d) => uptoBulk d + 1
 end
def uptoSmall : (H : Type) → List (DataW H) → Bool := fun _ ds => decide (uptoBulkAll ds ≤ 1048576)
def OpenSpec.upto (s : _root_.Go.ChangeSpec) : _root_.Go.OpenSpec := { _root_.Go.OpenSpec.ofChange s with cond := some uptoSmall }

/-- 'laws.FnExactPutIssue', WHERE WHAT IT READS IS OF BULK AT MOST 1048576: true; the input reads as it did. -/
def fnExactPutIssueUptoRow : OpenClaim := { program := "ythibchaiaedboaa", sum := "1c9df3b8fc2d067224704f0930d9ac2a905417f597c91c8a72d49561b9277326", func := "loop.example/g01060/laws.FnExactPutIssue", spec := "fnExactPutIssue", inPlace := ["slices.overlaps[loop.example/g01060/impl.Issue]"], unfollowed := true, recurses := true, apart := false, narrowed := true }
def FnExactPutIssueUptoSaid : Prop := fnExactPutIssueUptoRow.holds Try.pinned (OpenSpec.upto fnExactPutIssueSpec)

/-- 'laws.FnTrueDays', WHERE WHAT IT READS IS OF BULK AT MOST 1048576: true; the input reads as it did. -/
def fnTrueDaysUptoRow : OpenClaim := { program := "ythibchaiaedboaa", sum := "1c9df3b8fc2d067224704f0930d9ac2a905417f597c91c8a72d49561b9277326", func := "loop.example/g01060/laws.FnTrueDays", spec := "fnTrueDays", unfollowed := true, recurses := true, apart := false, narrowed := true }
def FnTrueDaysUptoSaid : Prop := fnTrueDaysUptoRow.holds Try.pinned (OpenSpec.upto fnTrueDaysSpec)

/-- 'laws.FnExactAddRepair', WHERE WHAT IT READS IS OF BULK AT MOST 1048576: true; the input reads as it did. -/
def fnExactAddRepairUptoRow : OpenClaim := { program := "ythibchaiaedboaa", sum := "1c9df3b8fc2d067224704f0930d9ac2a905417f597c91c8a72d49561b9277326", func := "loop.example/g01060/laws.FnExactAddRepair", spec := "fnExactAddRepair", unfollowed := true, recurses := true, apart := false, narrowed := true }
def FnExactAddRepairUptoSaid : Prop := fnExactAddRepairUptoRow.holds Try.pinned (OpenSpec.upto fnExactAddRepairSpec)

/-- 'laws.FnExactMutualPairs', WHERE WHAT IT READS IS OF BULK AT MOST 1048576: true; the input reads as it did. -/
def fnExactMutualPairsUptoRow : OpenClaim := { program := "ythibchaiaedboaa", sum := "1c9df3b8fc2d067224704f0930d9ac2a905417f597c91c8a72d49561b9277326", func := "loop.example/g01060/laws.FnExactMutualPairs", spec := "fnExactMutualPairs", unfollowed := true, recurses := true, apart := false, narrowed := true }
def FnExactMutualPairsUptoSaid : Prop := fnExactMutualPairsUptoRow.holds Try.pinned (OpenSpec.upto fnExactMutualPairsSpec)

/-- 'laws.FnHeadings', WHERE WHAT IT READS IS OF BULK AT MOST 1048576: true; the input reads as it did. -/
def fnHeadingsUptoRow : OpenClaim := { program := "ythibchaiaedboaa", sum := "1c9df3b8fc2d067224704f0930d9ac2a905417f597c91c8a72d49561b9277326", func := "loop.example/g01060/laws.FnHeadings", spec := "fnHeadings", unfollowed := true, recurses := true, apart := false, narrowed := true }
def FnHeadingsUptoSaid : Prop := fnHeadingsUptoRow.holds Try.pinned (OpenSpec.upto fnHeadingsSpec)

/-- 'laws.FnExactSeenFrom', WHERE WHAT IT READS IS OF BULK AT MOST 1048576: true; the input reads as it did. -/
def fnExactSeenFromUptoRow : OpenClaim := { program := "ythibchaiaedboaa", sum := "1c9df3b8fc2d067224704f0930d9ac2a905417f597c91c8a72d49561b9277326", func := "loop.example/g01060/laws.FnExactSeenFrom", spec := "fnExactSeenFrom", unfollowed := true, recurses := true, apart := false, narrowed := true }
def FnExactSeenFromUptoSaid : Prop := fnExactSeenFromUptoRow.holds Try.pinned (OpenSpec.upto fnExactSeenFromSpec)

/-- 'laws.FnSeen', WHERE WHAT IT READS IS OF BULK AT MOST 1048576: true; the input reads as it did. -/
def fnSeenUptoRow : OpenClaim := { program := "ythibchaiaedboaa", sum := "1c9df3b8fc2d067224704f0930d9ac2a905417f597c91c8a72d49561b9277326", func := "loop.example/g01060/laws.FnSeen", spec := "fnSeen", unfollowed := true, recurses := true, apart := false, narrowed := true }
def FnSeenUptoSaid : Prop := fnSeenUptoRow.holds Try.pinned (OpenSpec.upto fnSeenSpec)

/-- 'laws.FnExactTitleGroups', WHERE WHAT IT READS IS OF BULK AT MOST 1048576: true; the input reads as it did. -/
def fnExactTitleGroupsUptoRow : OpenClaim := { program := "ythibchaiaedboaa", sum := "1c9df3b8fc2d067224704f0930d9ac2a905417f597c91c8a72d49561b9277326", func := "loop.example/g01060/laws.FnExactTitleGroups", spec := "fnExactTitleGroups", unfollowed := true, recurses := true, apart := false, narrowed := true }
def FnExactTitleGroupsUptoSaid : Prop := fnExactTitleGroupsUptoRow.holds Try.pinned (OpenSpec.upto fnExactTitleGroupsSpec)

end Rows
end Go.Proofs.Ythibchaiaedboaa
