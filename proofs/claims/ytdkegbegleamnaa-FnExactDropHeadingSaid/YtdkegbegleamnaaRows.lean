/-
  No cell of these rows narrows 'for every input' (looked for: loops, veiled, ifaces, maps, wideKeys, modest, calm, conditions, laid).
  DERIVED. THE GIVEN ROWS OF THIS SEAT. 13 by the template 'for every input the law returns true; each argument reads behind the call as it read before'; 0 by the template 'total and deterministic' (their statements: YtdkegbegleamnaaTotals.lean).
  GIVEN WITH THE SEED: the statements are not yours to turn. If you find one false, say at which input.
  Laid BY PROGRAM, IN A SANDBOX (cutbox-rows.mjs): the forced cells as the released guide's own fill.sh prints them over the translation f74725b0e25852d6… (all of the seat's roots in one cut). By AI agents, Wed Nov 11 2026. No macro, syntax, notation, axiom, sorry.
-/
import Derived.Test.YtdkegbegleamnaaChecked
import GoSem.Claim
import GoSem.ClaimJoined
import GoSem.ClaimMapViews
import Derived.JoinedTies
import Derived.KernelRfl
namespace Go.Proofs.Ytdkegbegleamnaa
/- THE CELL 'sum', in the pinned program and in every row, IS THE sha256 OF THE DUMP (.gsa) THAT YtdkegbegleamnaaProg.lean LOADS. Nothing in Lean hashes anything: it is a label: what it is worth is what the hold of that sum in a sandbox is worth. -/
noncomputable def Try.pinned : Pinned := { name := "ytdkegbegleamnaa", sum := "f74725b0e25852d6152ac447cb0048d4cf9d11c63b1f643d52335d217ee9b95d", checked := Try.checked }
namespace Rows
def none {H : Type} : Left H := { results := [], args := [] }

/-- 'laws.FnExactAreHeadings': WHATEVER THE INPUT: true; the input reads as it did. -/
def fnExactAreHeadingsSpec : ChangeSpec := { name := "fnExactAreHeadings", fn := fun _ => fun
  | [d] => { results := [.lit (.bool true)], args := [d] }
  | _ => none }
def fnExactAreHeadingsRow : OpenClaim := { program := "ytdkegbegleamnaa", sum := "f74725b0e25852d6152ac447cb0048d4cf9d11c63b1f643d52335d217ee9b95d", func := "loop.example/g01060/laws.FnExactAreHeadings", spec := "fnExactAreHeadings", unfollowed := true, recurses := true, apart := false }
def FnExactAreHeadingsSaid : Prop := fnExactAreHeadingsRow.holds Try.pinned (OpenSpec.ofChange fnExactAreHeadingsSpec)

/-- ITS FALSE NEIGHBOUR: 'it returns false'. Refute it at one input. -/
def fnExactAreHeadingsWrong : ChangeSpec := { name := "fnExactAreHeadings", fn := fun _ => fun
  | [d] => { results := [.lit (.bool false)], args := [d] }
  | _ => none }
def FnExactAreHeadingsWrongFalsely : Prop := fnExactAreHeadingsRow.holds Try.pinned (OpenSpec.ofChange fnExactAreHeadingsWrong)

/-- 'laws.FnExactPathOf': WHATEVER THE INPUT: true; the input reads as it did. -/
def fnExactPathOfSpec : ChangeSpec := { name := "fnExactPathOf", fn := fun _ => fun
  | [d1, d2] => { results := [.lit (.bool true)], args := [d1, d2] }
  | _ => none }
def fnExactPathOfRow : OpenClaim := { program := "ytdkegbegleamnaa", sum := "f74725b0e25852d6152ac447cb0048d4cf9d11c63b1f643d52335d217ee9b95d", func := "loop.example/g01060/laws.FnExactPathOf", spec := "fnExactPathOf", unfollowed := true, recurses := true, apart := false }
def FnExactPathOfSaid : Prop := fnExactPathOfRow.holds Try.pinned (OpenSpec.ofChange fnExactPathOfSpec)

/-- ITS FALSE NEIGHBOUR: 'it returns false'. Refute it at one input. -/
def fnExactPathOfWrong : ChangeSpec := { name := "fnExactPathOf", fn := fun _ => fun
  | [d1, d2] => { results := [.lit (.bool false)], args := [d1, d2] }
  | _ => none }
def FnExactPathOfWrongFalsely : Prop := fnExactPathOfRow.holds Try.pinned (OpenSpec.ofChange fnExactPathOfWrong)

/-- 'laws.FnExactLowestAbove': WHATEVER THE INPUT: true; the input reads as it did. -/
def fnExactLowestAboveSpec : ChangeSpec := { name := "fnExactLowestAbove", fn := fun _ => fun
  | [d1, d2, d3] => { results := [.lit (.bool true)], args := [d1, d2, d3] }
  | _ => none }
def fnExactLowestAboveRow : OpenClaim := { program := "ytdkegbegleamnaa", sum := "f74725b0e25852d6152ac447cb0048d4cf9d11c63b1f643d52335d217ee9b95d", func := "loop.example/g01060/laws.FnExactLowestAbove", spec := "fnExactLowestAbove", unfollowed := true, recurses := true, apart := false }
def FnExactLowestAboveSaid : Prop := fnExactLowestAboveRow.holds Try.pinned (OpenSpec.ofChange fnExactLowestAboveSpec)

/-- ITS FALSE NEIGHBOUR: 'it returns false'. Refute it at one input. -/
def fnExactLowestAboveWrong : ChangeSpec := { name := "fnExactLowestAbove", fn := fun _ => fun
  | [d1, d2, d3] => { results := [.lit (.bool false)], args := [d1, d2, d3] }
  | _ => none }
def FnExactLowestAboveWrongFalsely : Prop := fnExactLowestAboveRow.holds Try.pinned (OpenSpec.ofChange fnExactLowestAboveWrong)

/-- 'laws.FnExactFindPath': WHATEVER THE INPUT: true; the input reads as it did. -/
def fnExactFindPathSpec : ChangeSpec := { name := "fnExactFindPath", fn := fun _ => fun
  | [d1, d2] => { results := [.lit (.bool true)], args := [d1, d2] }
  | _ => none }
def fnExactFindPathRow : OpenClaim := { program := "ytdkegbegleamnaa", sum := "f74725b0e25852d6152ac447cb0048d4cf9d11c63b1f643d52335d217ee9b95d", func := "loop.example/g01060/laws.FnExactFindPath", spec := "fnExactFindPath", unfollowed := true, recurses := true, apart := false }
def FnExactFindPathSaid : Prop := fnExactFindPathRow.holds Try.pinned (OpenSpec.ofChange fnExactFindPathSpec)

/-- ITS FALSE NEIGHBOUR: 'it returns false'. Refute it at one input. -/
def fnExactFindPathWrong : ChangeSpec := { name := "fnExactFindPath", fn := fun _ => fun
  | [d1, d2] => { results := [.lit (.bool false)], args := [d1, d2] }
  | _ => none }
def FnExactFindPathWrongFalsely : Prop := fnExactFindPathRow.holds Try.pinned (OpenSpec.ofChange fnExactFindPathWrong)

/-- 'laws.FnExactDirectlyUnder': WHATEVER THE INPUT: true; the input reads as it did. -/
def fnExactDirectlyUnderSpec : ChangeSpec := { name := "fnExactDirectlyUnder", fn := fun _ => fun
  | [d1, d2] => { results := [.lit (.bool true)], args := [d1, d2] }
  | _ => none }
def fnExactDirectlyUnderRow : OpenClaim := { program := "ytdkegbegleamnaa", sum := "f74725b0e25852d6152ac447cb0048d4cf9d11c63b1f643d52335d217ee9b95d", func := "loop.example/g01060/laws.FnExactDirectlyUnder", spec := "fnExactDirectlyUnder", unfollowed := true, recurses := true, apart := false }
def FnExactDirectlyUnderSaid : Prop := fnExactDirectlyUnderRow.holds Try.pinned (OpenSpec.ofChange fnExactDirectlyUnderSpec)

/-- ITS FALSE NEIGHBOUR: 'it returns false'. Refute it at one input. -/
def fnExactDirectlyUnderWrong : ChangeSpec := { name := "fnExactDirectlyUnder", fn := fun _ => fun
  | [d1, d2] => { results := [.lit (.bool false)], args := [d1, d2] }
  | _ => none }
def FnExactDirectlyUnderWrongFalsely : Prop := fnExactDirectlyUnderRow.holds Try.pinned (OpenSpec.ofChange fnExactDirectlyUnderWrong)

/-- 'laws.FnExactAllBelow': WHATEVER THE INPUT: true; the input reads as it did. -/
def fnExactAllBelowSpec : ChangeSpec := { name := "fnExactAllBelow", fn := fun _ => fun
  | [d1, d2] => { results := [.lit (.bool true)], args := [d1, d2] }
  | _ => none }
def fnExactAllBelowRow : OpenClaim := { program := "ytdkegbegleamnaa", sum := "f74725b0e25852d6152ac447cb0048d4cf9d11c63b1f643d52335d217ee9b95d", func := "loop.example/g01060/laws.FnExactAllBelow", spec := "fnExactAllBelow", unfollowed := true, recurses := true, apart := false }
def FnExactAllBelowSaid : Prop := fnExactAllBelowRow.holds Try.pinned (OpenSpec.ofChange fnExactAllBelowSpec)

/-- ITS FALSE NEIGHBOUR: 'it returns false'. Refute it at one input. -/
def fnExactAllBelowWrong : ChangeSpec := { name := "fnExactAllBelow", fn := fun _ => fun
  | [d1, d2] => { results := [.lit (.bool false)], args := [d1, d2] }
  | _ => none }
def FnExactAllBelowWrongFalsely : Prop := fnExactAllBelowRow.holds Try.pinned (OpenSpec.ofChange fnExactAllBelowWrong)

/-- 'laws.FnExactMutualPairs': WHATEVER THE INPUT: true; the input reads as it did. -/
def fnExactMutualPairsSpec : ChangeSpec := { name := "fnExactMutualPairs", fn := fun _ => fun
  | [d] => { results := [.lit (.bool true)], args := [d] }
  | _ => none }
def fnExactMutualPairsRow : OpenClaim := { program := "ytdkegbegleamnaa", sum := "f74725b0e25852d6152ac447cb0048d4cf9d11c63b1f643d52335d217ee9b95d", func := "loop.example/g01060/laws.FnExactMutualPairs", spec := "fnExactMutualPairs", unfollowed := true, recurses := true, apart := false }
def FnExactMutualPairsSaid : Prop := fnExactMutualPairsRow.holds Try.pinned (OpenSpec.ofChange fnExactMutualPairsSpec)

/-- ITS FALSE NEIGHBOUR: 'it returns false'. Refute it at one input. -/
def fnExactMutualPairsWrong : ChangeSpec := { name := "fnExactMutualPairs", fn := fun _ => fun
  | [d] => { results := [.lit (.bool false)], args := [d] }
  | _ => none }
def FnExactMutualPairsWrongFalsely : Prop := fnExactMutualPairsRow.holds Try.pinned (OpenSpec.ofChange fnExactMutualPairsWrong)

/-- 'laws.FnExactAddHeading': WHATEVER THE INPUT: true; the input reads as it did. -/
def fnExactAddHeadingSpec : ChangeSpec := { name := "fnExactAddHeading", fn := fun _ => fun
  | [d1, d2, d3] => { results := [.lit (.bool true)], args := [d1, d2, d3] }
  | _ => none }
def fnExactAddHeadingRow : OpenClaim := { program := "ytdkegbegleamnaa", sum := "f74725b0e25852d6152ac447cb0048d4cf9d11c63b1f643d52335d217ee9b95d", func := "loop.example/g01060/laws.FnExactAddHeading", spec := "fnExactAddHeading", unfollowed := true, recurses := true, apart := false }
def FnExactAddHeadingSaid : Prop := fnExactAddHeadingRow.holds Try.pinned (OpenSpec.ofChange fnExactAddHeadingSpec)

/-- ITS FALSE NEIGHBOUR: 'it returns false'. Refute it at one input. -/
def fnExactAddHeadingWrong : ChangeSpec := { name := "fnExactAddHeading", fn := fun _ => fun
  | [d1, d2, d3] => { results := [.lit (.bool false)], args := [d1, d2, d3] }
  | _ => none }
def FnExactAddHeadingWrongFalsely : Prop := fnExactAddHeadingRow.holds Try.pinned (OpenSpec.ofChange fnExactAddHeadingWrong)

/-- 'laws.FnExactMoveHeading': WHATEVER THE INPUT: true; the input reads as it did. -/
def fnExactMoveHeadingSpec : ChangeSpec := { name := "fnExactMoveHeading", fn := fun _ => fun
  | [d1, d2, d3] => { results := [.lit (.bool true)], args := [d1, d2, d3] }
  | _ => none }
def fnExactMoveHeadingRow : OpenClaim := { program := "ytdkegbegleamnaa", sum := "f74725b0e25852d6152ac447cb0048d4cf9d11c63b1f643d52335d217ee9b95d", func := "loop.example/g01060/laws.FnExactMoveHeading", spec := "fnExactMoveHeading", unfollowed := true, recurses := true, apart := false }
def FnExactMoveHeadingSaid : Prop := fnExactMoveHeadingRow.holds Try.pinned (OpenSpec.ofChange fnExactMoveHeadingSpec)

/-- ITS FALSE NEIGHBOUR: 'it returns false'. Refute it at one input. -/
def fnExactMoveHeadingWrong : ChangeSpec := { name := "fnExactMoveHeading", fn := fun _ => fun
  | [d1, d2, d3] => { results := [.lit (.bool false)], args := [d1, d2, d3] }
  | _ => none }
def FnExactMoveHeadingWrongFalsely : Prop := fnExactMoveHeadingRow.holds Try.pinned (OpenSpec.ofChange fnExactMoveHeadingWrong)

/-- 'laws.FnExactDropHeading': WHATEVER THE INPUT: true; the input reads as it did. -/
def fnExactDropHeadingSpec : ChangeSpec := { name := "fnExactDropHeading", fn := fun _ => fun
  | [d1, d2] => { results := [.lit (.bool true)], args := [d1, d2] }
  | _ => none }
def fnExactDropHeadingRow : OpenClaim := { program := "ytdkegbegleamnaa", sum := "f74725b0e25852d6152ac447cb0048d4cf9d11c63b1f643d52335d217ee9b95d", func := "loop.example/g01060/laws.FnExactDropHeading", spec := "fnExactDropHeading", unfollowed := true, recurses := true, apart := false }
def FnExactDropHeadingSaid : Prop := fnExactDropHeadingRow.holds Try.pinned (OpenSpec.ofChange fnExactDropHeadingSpec)

/-- ITS FALSE NEIGHBOUR: 'it returns false'. Refute it at one input. -/
def fnExactDropHeadingWrong : ChangeSpec := { name := "fnExactDropHeading", fn := fun _ => fun
  | [d1, d2] => { results := [.lit (.bool false)], args := [d1, d2] }
  | _ => none }
def FnExactDropHeadingWrongFalsely : Prop := fnExactDropHeadingRow.holds Try.pinned (OpenSpec.ofChange fnExactDropHeadingWrong)

/-- 'laws.FnHeadings': WHATEVER THE INPUT: true; the input reads as it did. -/
def fnHeadingsSpec : ChangeSpec := { name := "fnHeadings", fn := fun _ => fun
  | [d] => { results := [.lit (.bool true)], args := [d] }
  | _ => none }
def fnHeadingsRow : OpenClaim := { program := "ytdkegbegleamnaa", sum := "f74725b0e25852d6152ac447cb0048d4cf9d11c63b1f643d52335d217ee9b95d", func := "loop.example/g01060/laws.FnHeadings", spec := "fnHeadings", unfollowed := true, recurses := true, apart := false }
def FnHeadingsSaid : Prop := fnHeadingsRow.holds Try.pinned (OpenSpec.ofChange fnHeadingsSpec)

/-- ITS FALSE NEIGHBOUR: 'it returns false'. Refute it at one input. -/
def fnHeadingsWrong : ChangeSpec := { name := "fnHeadings", fn := fun _ => fun
  | [d] => { results := [.lit (.bool false)], args := [d] }
  | _ => none }
def FnHeadingsWrongFalsely : Prop := fnHeadingsRow.holds Try.pinned (OpenSpec.ofChange fnHeadingsWrong)

/-- 'laws.FnExactSeenFrom': WHATEVER THE INPUT: true; the input reads as it did. -/
def fnExactSeenFromSpec : ChangeSpec := { name := "fnExactSeenFrom", fn := fun _ => fun
  | [d1, d2, d3] => { results := [.lit (.bool true)], args := [d1, d2, d3] }
  | _ => none }
def fnExactSeenFromRow : OpenClaim := { program := "ytdkegbegleamnaa", sum := "f74725b0e25852d6152ac447cb0048d4cf9d11c63b1f643d52335d217ee9b95d", func := "loop.example/g01060/laws.FnExactSeenFrom", spec := "fnExactSeenFrom", unfollowed := true, recurses := true, apart := false }
def FnExactSeenFromSaid : Prop := fnExactSeenFromRow.holds Try.pinned (OpenSpec.ofChange fnExactSeenFromSpec)

/-- ITS FALSE NEIGHBOUR: 'it returns false'. Refute it at one input. -/
def fnExactSeenFromWrong : ChangeSpec := { name := "fnExactSeenFrom", fn := fun _ => fun
  | [d1, d2, d3] => { results := [.lit (.bool false)], args := [d1, d2, d3] }
  | _ => none }
def FnExactSeenFromWrongFalsely : Prop := fnExactSeenFromRow.holds Try.pinned (OpenSpec.ofChange fnExactSeenFromWrong)

/-- 'laws.FnSeen': WHATEVER THE INPUT: true; the input reads as it did. -/
def fnSeenSpec : ChangeSpec := { name := "fnSeen", fn := fun _ => fun
  | [d] => { results := [.lit (.bool true)], args := [d] }
  | _ => none }
def fnSeenRow : OpenClaim := { program := "ytdkegbegleamnaa", sum := "f74725b0e25852d6152ac447cb0048d4cf9d11c63b1f643d52335d217ee9b95d", func := "loop.example/g01060/laws.FnSeen", spec := "fnSeen", unfollowed := true, recurses := true, apart := false }
def FnSeenSaid : Prop := fnSeenRow.holds Try.pinned (OpenSpec.ofChange fnSeenSpec)

/-- ITS FALSE NEIGHBOUR: 'it returns false'. Refute it at one input. -/
def fnSeenWrong : ChangeSpec := { name := "fnSeen", fn := fun _ => fun
  | [d] => { results := [.lit (.bool false)], args := [d] }
  | _ => none }
def FnSeenWrongFalsely : Prop := fnSeenRow.holds Try.pinned (OpenSpec.ofChange fnSeenWrong)

/- THE SECOND FORM. 'bulk': how many values and letters a reading holds, each counted each time it is reached (what is shared counts as often as it is met; a slice's spare places count too). A statement '..UptoSaid' is the law's where the arguments, and the package variables that the reading takes, are together of bulk at most 1048576: NARROWER than '..Said'. Prove '..Said' where nothing that the law and all that it calls make is longer than what came in: it says more and counts as full. Else prove '..UptoSaid'. A law counts once. -/
mutual
def uptoBulk {H : Type} : DataW H → Nat
  | .lit (.string bytes) => bytes.length + 1
  | .lit _ => 1
  | .nil => 1
  | .ptr d => uptoBulk d + 1
  | .slice elems spare => uptoBulkAll elems + uptoBulkAll spare + 1
  | .agg parts => uptoBulkAll parts + 1
  | .iface _ d => uptoBulk d + 1
  | .map entries => uptoBulkEntries entries + 1
  | .held _ => 1
def uptoBulkAll {H : Type} : List (DataW H) → Nat
  | [] => 0
  | d :: r => uptoBulk d + uptoBulkAll r
def uptoBulkEntries {H : Type} : List (Lit × DataW H) → Nat
  | [] => 0
  | x :: r => uptoBulkEntry x + uptoBulkEntries r
def uptoBulkEntry {H : Type} : Lit × DataW H → Nat
  | (.string bytes, d) => bytes.length + uptoBulk d + 1
  | (_, d) => uptoBulk d + 1
 end
def uptoSmall : (H : Type) → List (DataW H) → Bool := fun _ ds => decide (uptoBulkAll ds ≤ 1048576)
def OpenSpec.upto (s : _root_.Go.ChangeSpec) : _root_.Go.OpenSpec := { _root_.Go.OpenSpec.ofChange s with cond := some uptoSmall }

/-- 'laws.FnExactAreHeadings', WHERE WHAT IT READS IS OF BULK AT MOST 1048576: true; the input reads as it did. -/
def fnExactAreHeadingsUptoRow : OpenClaim := { program := "ytdkegbegleamnaa", sum := "f74725b0e25852d6152ac447cb0048d4cf9d11c63b1f643d52335d217ee9b95d", func := "loop.example/g01060/laws.FnExactAreHeadings", spec := "fnExactAreHeadings", unfollowed := true, recurses := true, apart := false, narrowed := true }
def FnExactAreHeadingsUptoSaid : Prop := fnExactAreHeadingsUptoRow.holds Try.pinned (OpenSpec.upto fnExactAreHeadingsSpec)

/-- 'laws.FnExactPathOf', WHERE WHAT IT READS IS OF BULK AT MOST 1048576: true; the input reads as it did. -/
def fnExactPathOfUptoRow : OpenClaim := { program := "ytdkegbegleamnaa", sum := "f74725b0e25852d6152ac447cb0048d4cf9d11c63b1f643d52335d217ee9b95d", func := "loop.example/g01060/laws.FnExactPathOf", spec := "fnExactPathOf", unfollowed := true, recurses := true, apart := false, narrowed := true }
def FnExactPathOfUptoSaid : Prop := fnExactPathOfUptoRow.holds Try.pinned (OpenSpec.upto fnExactPathOfSpec)

/-- 'laws.FnExactLowestAbove', WHERE WHAT IT READS IS OF BULK AT MOST 1048576: true; the input reads as it did. -/
def fnExactLowestAboveUptoRow : OpenClaim := { program := "ytdkegbegleamnaa", sum := "f74725b0e25852d6152ac447cb0048d4cf9d11c63b1f643d52335d217ee9b95d", func := "loop.example/g01060/laws.FnExactLowestAbove", spec := "fnExactLowestAbove", unfollowed := true, recurses := true, apart := false, narrowed := true }
def FnExactLowestAboveUptoSaid : Prop := fnExactLowestAboveUptoRow.holds Try.pinned (OpenSpec.upto fnExactLowestAboveSpec)

/-- 'laws.FnExactFindPath', WHERE WHAT IT READS IS OF BULK AT MOST 1048576: true; the input reads as it did. -/
def fnExactFindPathUptoRow : OpenClaim := { program := "ytdkegbegleamnaa", sum := "f74725b0e25852d6152ac447cb0048d4cf9d11c63b1f643d52335d217ee9b95d", func := "loop.example/g01060/laws.FnExactFindPath", spec := "fnExactFindPath", unfollowed := true, recurses := true, apart := false, narrowed := true }
def FnExactFindPathUptoSaid : Prop := fnExactFindPathUptoRow.holds Try.pinned (OpenSpec.upto fnExactFindPathSpec)

/-- 'laws.FnExactDirectlyUnder', WHERE WHAT IT READS IS OF BULK AT MOST 1048576: true; the input reads as it did. -/
def fnExactDirectlyUnderUptoRow : OpenClaim := { program := "ytdkegbegleamnaa", sum := "f74725b0e25852d6152ac447cb0048d4cf9d11c63b1f643d52335d217ee9b95d", func := "loop.example/g01060/laws.FnExactDirectlyUnder", spec := "fnExactDirectlyUnder", unfollowed := true, recurses := true, apart := false, narrowed := true }
def FnExactDirectlyUnderUptoSaid : Prop := fnExactDirectlyUnderUptoRow.holds Try.pinned (OpenSpec.upto fnExactDirectlyUnderSpec)

/-- 'laws.FnExactAllBelow', WHERE WHAT IT READS IS OF BULK AT MOST 1048576: true; the input reads as it did. -/
def fnExactAllBelowUptoRow : OpenClaim := { program := "ytdkegbegleamnaa", sum := "f74725b0e25852d6152ac447cb0048d4cf9d11c63b1f643d52335d217ee9b95d", func := "loop.example/g01060/laws.FnExactAllBelow", spec := "fnExactAllBelow", unfollowed := true, recurses := true, apart := false, narrowed := true }
def FnExactAllBelowUptoSaid : Prop := fnExactAllBelowUptoRow.holds Try.pinned (OpenSpec.upto fnExactAllBelowSpec)

/-- 'laws.FnExactMutualPairs', WHERE WHAT IT READS IS OF BULK AT MOST 1048576: true; the input reads as it did. -/
def fnExactMutualPairsUptoRow : OpenClaim := { program := "ytdkegbegleamnaa", sum := "f74725b0e25852d6152ac447cb0048d4cf9d11c63b1f643d52335d217ee9b95d", func := "loop.example/g01060/laws.FnExactMutualPairs", spec := "fnExactMutualPairs", unfollowed := true, recurses := true, apart := false, narrowed := true }
def FnExactMutualPairsUptoSaid : Prop := fnExactMutualPairsUptoRow.holds Try.pinned (OpenSpec.upto fnExactMutualPairsSpec)

/-- 'laws.FnExactAddHeading', WHERE WHAT IT READS IS OF BULK AT MOST 1048576: true; the input reads as it did. -/
def fnExactAddHeadingUptoRow : OpenClaim := { program := "ytdkegbegleamnaa", sum := "f74725b0e25852d6152ac447cb0048d4cf9d11c63b1f643d52335d217ee9b95d", func := "loop.example/g01060/laws.FnExactAddHeading", spec := "fnExactAddHeading", unfollowed := true, recurses := true, apart := false, narrowed := true }
def FnExactAddHeadingUptoSaid : Prop := fnExactAddHeadingUptoRow.holds Try.pinned (OpenSpec.upto fnExactAddHeadingSpec)

/-- 'laws.FnExactMoveHeading', WHERE WHAT IT READS IS OF BULK AT MOST 1048576: true; the input reads as it did. -/
def fnExactMoveHeadingUptoRow : OpenClaim := { program := "ytdkegbegleamnaa", sum := "f74725b0e25852d6152ac447cb0048d4cf9d11c63b1f643d52335d217ee9b95d", func := "loop.example/g01060/laws.FnExactMoveHeading", spec := "fnExactMoveHeading", unfollowed := true, recurses := true, apart := false, narrowed := true }
def FnExactMoveHeadingUptoSaid : Prop := fnExactMoveHeadingUptoRow.holds Try.pinned (OpenSpec.upto fnExactMoveHeadingSpec)

/-- 'laws.FnExactDropHeading', WHERE WHAT IT READS IS OF BULK AT MOST 1048576: true; the input reads as it did. -/
def fnExactDropHeadingUptoRow : OpenClaim := { program := "ytdkegbegleamnaa", sum := "f74725b0e25852d6152ac447cb0048d4cf9d11c63b1f643d52335d217ee9b95d", func := "loop.example/g01060/laws.FnExactDropHeading", spec := "fnExactDropHeading", unfollowed := true, recurses := true, apart := false, narrowed := true }
def FnExactDropHeadingUptoSaid : Prop := fnExactDropHeadingUptoRow.holds Try.pinned (OpenSpec.upto fnExactDropHeadingSpec)

/-- 'laws.FnHeadings', WHERE WHAT IT READS IS OF BULK AT MOST 1048576: true; the input reads as it did. -/
def fnHeadingsUptoRow : OpenClaim := { program := "ytdkegbegleamnaa", sum := "f74725b0e25852d6152ac447cb0048d4cf9d11c63b1f643d52335d217ee9b95d", func := "loop.example/g01060/laws.FnHeadings", spec := "fnHeadings", unfollowed := true, recurses := true, apart := false, narrowed := true }
def FnHeadingsUptoSaid : Prop := fnHeadingsUptoRow.holds Try.pinned (OpenSpec.upto fnHeadingsSpec)

/-- 'laws.FnExactSeenFrom', WHERE WHAT IT READS IS OF BULK AT MOST 1048576: true; the input reads as it did. -/
def fnExactSeenFromUptoRow : OpenClaim := { program := "ytdkegbegleamnaa", sum := "f74725b0e25852d6152ac447cb0048d4cf9d11c63b1f643d52335d217ee9b95d", func := "loop.example/g01060/laws.FnExactSeenFrom", spec := "fnExactSeenFrom", unfollowed := true, recurses := true, apart := false, narrowed := true }
def FnExactSeenFromUptoSaid : Prop := fnExactSeenFromUptoRow.holds Try.pinned (OpenSpec.upto fnExactSeenFromSpec)

/-- 'laws.FnSeen', WHERE WHAT IT READS IS OF BULK AT MOST 1048576: true; the input reads as it did. -/
def fnSeenUptoRow : OpenClaim := { program := "ytdkegbegleamnaa", sum := "f74725b0e25852d6152ac447cb0048d4cf9d11c63b1f643d52335d217ee9b95d", func := "loop.example/g01060/laws.FnSeen", spec := "fnSeen", unfollowed := true, recurses := true, apart := false, narrowed := true }
def FnSeenUptoSaid : Prop := fnSeenUptoRow.holds Try.pinned (OpenSpec.upto fnSeenSpec)

end Rows
end Go.Proofs.Ytdkegbegleamnaa
