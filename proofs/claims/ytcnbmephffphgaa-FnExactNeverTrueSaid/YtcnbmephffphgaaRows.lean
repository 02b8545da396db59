/-
  No cell of these rows narrows 'for every input' (looked for: loops, veiled, ifaces, maps, wideKeys, modest, calm, conditions, laid).
  DERIVED. THE GIVEN ROWS OF THIS SEAT. 9 by the template 'for every input the law returns true; each argument reads behind the call as it read before'; 0 by the template 'total and deterministic' (their statements: YtcnbmephffphgaaTotals.lean).
  GIVEN WITH THE SEED: the statements are not yours to turn. If you find one false, say at which input.
  Laid BY PROGRAM, IN A SANDBOX (cutbox-rows.mjs): the forced cells as the released guide's own fill.sh prints them over the translation 9651c5125db0b512… (all of the seat's roots in one cut). By AI agents, Wed Nov 11 2026. No macro, syntax, notation, axiom, sorry.
-/
import Derived.Test.YtcnbmephffphgaaChecked
import GoSem.Claim
import GoSem.ClaimJoined
import GoSem.ClaimMapViews
import Derived.JoinedTies
import Derived.KernelRfl
namespace Go.Proofs.Ytcnbmephffphgaa
/- THE CELL 'sum', in the pinned program and in every row, IS THE sha256 OF THE DUMP (.gsa) THAT YtcnbmephffphgaaProg.lean LOADS. Nothing in Lean hashes anything: it is a label: what it is worth is what the hold of that sum in a sandbox is worth. -/
noncomputable def Try.pinned : Pinned := { name := "ytcnbmephffphgaa", sum := "9651c5125db0b512c5c20939f761475f432bf5177a52c1fb62c32616054b3bb4", checked := Try.checked }
namespace Rows
def none {H : Type} : Left H := { results := [], args := [] }

/-- 'laws.FnExactTrueIssue': WHATEVER THE INPUT: true; the input reads as it did. -/
def fnExactTrueIssueSpec : ChangeSpec := { name := "fnExactTrueIssue", fn := fun _ => fun
  | [d1, d2, d3] => { results := [.lit (.bool true)], args := [d1, d2, d3] }
  | _ => none }
def fnExactTrueIssueRow : OpenClaim := { program := "ytcnbmephffphgaa", sum := "9651c5125db0b512c5c20939f761475f432bf5177a52c1fb62c32616054b3bb4", func := "loop.example/g01060/laws.FnExactTrueIssue", spec := "fnExactTrueIssue", apart := false }
def FnExactTrueIssueSaid : Prop := fnExactTrueIssueRow.holds Try.pinned (OpenSpec.ofChange fnExactTrueIssueSpec)

/-- ITS FALSE NEIGHBOUR: 'it returns false'. Refute it at one input. -/
def fnExactTrueIssueWrong : ChangeSpec := { name := "fnExactTrueIssue", fn := fun _ => fun
  | [d1, d2, d3] => { results := [.lit (.bool false)], args := [d1, d2, d3] }
  | _ => none }
def FnExactTrueIssueWrongFalsely : Prop := fnExactTrueIssueRow.holds Try.pinned (OpenSpec.ofChange fnExactTrueIssueWrong)

/-- 'laws.FnExactFirstGap': WHATEVER THE INPUT: true; the input reads as it did. -/
def fnExactFirstGapSpec : ChangeSpec := { name := "fnExactFirstGap", fn := fun _ => fun
  | [d1, d2, d3, d4] => { results := [.lit (.bool true)], args := [d1, d2, d3, d4] }
  | _ => none }
def fnExactFirstGapRow : OpenClaim := { program := "ytcnbmephffphgaa", sum := "9651c5125db0b512c5c20939f761475f432bf5177a52c1fb62c32616054b3bb4", func := "loop.example/g01060/laws.FnExactFirstGap", spec := "fnExactFirstGap", apart := false }
def FnExactFirstGapSaid : Prop := fnExactFirstGapRow.holds Try.pinned (OpenSpec.ofChange fnExactFirstGapSpec)

/-- ITS FALSE NEIGHBOUR: 'it returns false'. Refute it at one input. -/
def fnExactFirstGapWrong : ChangeSpec := { name := "fnExactFirstGap", fn := fun _ => fun
  | [d1, d2, d3, d4] => { results := [.lit (.bool false)], args := [d1, d2, d3, d4] }
  | _ => none }
def FnExactFirstGapWrongFalsely : Prop := fnExactFirstGapRow.holds Try.pinned (OpenSpec.ofChange fnExactFirstGapWrong)

/-- 'laws.FnExactChangesOf': WHATEVER THE INPUT: true; the input reads as it did. -/
def fnExactChangesOfSpec : ChangeSpec := { name := "fnExactChangesOf", fn := fun _ => fun
  | [d1, d2] => { results := [.lit (.bool true)], args := [d1, d2] }
  | _ => none }
def fnExactChangesOfRow : OpenClaim := { program := "ytcnbmephffphgaa", sum := "9651c5125db0b512c5c20939f761475f432bf5177a52c1fb62c32616054b3bb4", func := "loop.example/g01060/laws.FnExactChangesOf", spec := "fnExactChangesOf", apart := false }
def FnExactChangesOfSaid : Prop := fnExactChangesOfRow.holds Try.pinned (OpenSpec.ofChange fnExactChangesOfSpec)

/-- ITS FALSE NEIGHBOUR: 'it returns false'. Refute it at one input. -/
def fnExactChangesOfWrong : ChangeSpec := { name := "fnExactChangesOf", fn := fun _ => fun
  | [d1, d2] => { results := [.lit (.bool false)], args := [d1, d2] }
  | _ => none }
def FnExactChangesOfWrongFalsely : Prop := fnExactChangesOfRow.holds Try.pinned (OpenSpec.ofChange fnExactChangesOfWrong)

/-- 'laws.FnExactEndIssue': WHATEVER THE INPUT: true; the input reads as it did. -/
def fnExactEndIssueSpec : ChangeSpec := { name := "fnExactEndIssue", fn := fun _ => fun
  | [d1, d2, d3, d4] => { results := [.lit (.bool true)], args := [d1, d2, d3, d4] }
  | _ => none }
def fnExactEndIssueRow : OpenClaim := { program := "ytcnbmephffphgaa", sum := "9651c5125db0b512c5c20939f761475f432bf5177a52c1fb62c32616054b3bb4", func := "loop.example/g01060/laws.FnExactEndIssue", spec := "fnExactEndIssue", unfollowed := true, recurses := true, apart := false }
def FnExactEndIssueSaid : Prop := fnExactEndIssueRow.holds Try.pinned (OpenSpec.ofChange fnExactEndIssueSpec)

/-- ITS FALSE NEIGHBOUR: 'it returns false'. Refute it at one input. -/
def fnExactEndIssueWrong : ChangeSpec := { name := "fnExactEndIssue", fn := fun _ => fun
  | [d1, d2, d3, d4] => { results := [.lit (.bool false)], args := [d1, d2, d3, d4] }
  | _ => none }
def FnExactEndIssueWrongFalsely : Prop := fnExactEndIssueRow.holds Try.pinned (OpenSpec.ofChange fnExactEndIssueWrong)

/-- 'laws.FnExactTrueSheets': WHATEVER THE INPUT: true; the input reads as it did. -/
def fnExactTrueSheetsSpec : ChangeSpec := { name := "fnExactTrueSheets", fn := fun _ => fun
  | [d1, d2] => { results := [.lit (.bool true)], args := [d1, d2] }
  | _ => none }
def fnExactTrueSheetsRow : OpenClaim := { program := "ytcnbmephffphgaa", sum := "9651c5125db0b512c5c20939f761475f432bf5177a52c1fb62c32616054b3bb4", func := "loop.example/g01060/laws.FnExactTrueSheets", spec := "fnExactTrueSheets", unfollowed := true, recurses := true, apart := false }
def FnExactTrueSheetsSaid : Prop := fnExactTrueSheetsRow.holds Try.pinned (OpenSpec.ofChange fnExactTrueSheetsSpec)

/-- ITS FALSE NEIGHBOUR: 'it returns false'. Refute it at one input. -/
def fnExactTrueSheetsWrong : ChangeSpec := { name := "fnExactTrueSheets", fn := fun _ => fun
  | [d1, d2] => { results := [.lit (.bool false)], args := [d1, d2] }
  | _ => none }
def FnExactTrueSheetsWrongFalsely : Prop := fnExactTrueSheetsRow.holds Try.pinned (OpenSpec.ofChange fnExactTrueSheetsWrong)

/-- 'laws.FnExactNeverTrue': WHATEVER THE INPUT: true; the input reads as it did. -/
def fnExactNeverTrueSpec : ChangeSpec := { name := "fnExactNeverTrue", fn := fun _ => fun
  | [d] => { results := [.lit (.bool true)], args := [d] }
  | _ => none }
def fnExactNeverTrueRow : OpenClaim := { program := "ytcnbmephffphgaa", sum := "9651c5125db0b512c5c20939f761475f432bf5177a52c1fb62c32616054b3bb4", func := "loop.example/g01060/laws.FnExactNeverTrue", spec := "fnExactNeverTrue", unfollowed := true, recurses := true, apart := false }
def FnExactNeverTrueSaid : Prop := fnExactNeverTrueRow.holds Try.pinned (OpenSpec.ofChange fnExactNeverTrueSpec)

/-- ITS FALSE NEIGHBOUR: 'it returns false'. Refute it at one input. -/
def fnExactNeverTrueWrong : ChangeSpec := { name := "fnExactNeverTrue", fn := fun _ => fun
  | [d] => { results := [.lit (.bool false)], args := [d] }
  | _ => none }
def FnExactNeverTrueWrongFalsely : Prop := fnExactNeverTrueRow.holds Try.pinned (OpenSpec.ofChange fnExactNeverTrueWrong)

/-- 'laws.FnExactTrueDays': WHATEVER THE INPUT: true; the input reads as it did. -/
def fnExactTrueDaysSpec : ChangeSpec := { name := "fnExactTrueDays", fn := fun _ => fun
  | [d1, d2, d3] => { results := [.lit (.bool true)], args := [d1, d2, d3] }
  | _ => none }
def fnExactTrueDaysRow : OpenClaim := { program := "ytcnbmephffphgaa", sum := "9651c5125db0b512c5c20939f761475f432bf5177a52c1fb62c32616054b3bb4", func := "loop.example/g01060/laws.FnExactTrueDays", spec := "fnExactTrueDays", unfollowed := true, recurses := true, apart := false }
def FnExactTrueDaysSaid : Prop := fnExactTrueDaysRow.holds Try.pinned (OpenSpec.ofChange fnExactTrueDaysSpec)

/-- ITS FALSE NEIGHBOUR: 'it returns false'. Refute it at one input. -/
def fnExactTrueDaysWrong : ChangeSpec := { name := "fnExactTrueDays", fn := fun _ => fun
  | [d1, d2, d3] => { results := [.lit (.bool false)], args := [d1, d2, d3] }
  | _ => none }
def FnExactTrueDaysWrongFalsely : Prop := fnExactTrueDaysRow.holds Try.pinned (OpenSpec.ofChange fnExactTrueDaysWrong)

/-- 'laws.FnExactPutIssue': WHATEVER THE INPUT: true; the input reads as it did. -/
def fnExactPutIssueSpec : ChangeSpec := { name := "fnExactPutIssue", fn := fun _ => fun
  | [d1, d2] => { results := [.lit (.bool true)], args := [d1, d2] }
  | _ => none }
def fnExactPutIssueRow : OpenClaim := { program := "ytcnbmephffphgaa", sum := "9651c5125db0b512c5c20939f761475f432bf5177a52c1fb62c32616054b3bb4", func := "loop.example/g01060/laws.FnExactPutIssue", spec := "fnExactPutIssue", inPlace := ["slices.overlaps[loop.example/g01060/impl.Issue]"], unfollowed := true, recurses := true, apart := false }
def FnExactPutIssueSaid : Prop := fnExactPutIssueRow.holds Try.pinned (OpenSpec.ofChange fnExactPutIssueSpec)

/-- ITS FALSE NEIGHBOUR: 'it returns false'. Refute it at one input. -/
def fnExactPutIssueWrong : ChangeSpec := { name := "fnExactPutIssue", fn := fun _ => fun
  | [d1, d2] => { results := [.lit (.bool false)], args := [d1, d2] }
  | _ => none }
def FnExactPutIssueWrongFalsely : Prop := fnExactPutIssueRow.holds Try.pinned (OpenSpec.ofChange fnExactPutIssueWrong)

/-- 'laws.FnTrueDays': WHATEVER THE INPUT: true; the input reads as it did. -/
def fnTrueDaysSpec : ChangeSpec := { name := "fnTrueDays", fn := fun _ => fun
  | [d] => { results := [.lit (.bool true)], args := [d] }
  | _ => none }
def fnTrueDaysRow : OpenClaim := { program := "ytcnbmephffphgaa", sum := "9651c5125db0b512c5c20939f761475f432bf5177a52c1fb62c32616054b3bb4", func := "loop.example/g01060/laws.FnTrueDays", spec := "fnTrueDays", unfollowed := true, recurses := true, apart := false }
def FnTrueDaysSaid : Prop := fnTrueDaysRow.holds Try.pinned (OpenSpec.ofChange fnTrueDaysSpec)

/-- ITS FALSE NEIGHBOUR: 'it returns false'. Refute it at one input. -/
def fnTrueDaysWrong : ChangeSpec := { name := "fnTrueDays", fn := fun _ => fun
  | [d] => { results := [.lit (.bool false)], args := [d] }
  | _ => none }
def FnTrueDaysWrongFalsely : Prop := fnTrueDaysRow.holds Try.pinned (OpenSpec.ofChange fnTrueDaysWrong)

/- THE SECOND FORM. 'bulk': how many values and letters a reading holds, each counted each time it is reached (what is shared counts as often as it is met; a slice's spare places count too). A statement '..UptoSaid' is the law's where the arguments, and the package variables that the reading takes, are together of bulk at most 1048576: NARROWER than '..Said'. Prove '..Said' where nothing that the law and all that it calls make is longer than what came in: it says more and counts as full. Else prove '..UptoSaid'. A law counts once. -/
mutual
def uptoBulk {H : Type} : DataW H → Nat
  | .lit (.string bytes) => bytes.length + 1
  | .lit _ => 1
  | .nil => 1
  | .ptr d => uptoBulk d + 1
  | .slice elems spare => uptoBulkAll elems + uptoBulkAll spare + 1
  | .agg parts => uptoBulkAll parts + 1
  | .iface _ d => uptoBulk d + 1
  | .map entries => uptoBulkEntries entries + 1
  | .held _ => 1
def uptoBulkAll {H : Type} : List (DataW H) → Nat
  | [] => 0
  | d :: r => uptoBulk d + uptoBulkAll r
def uptoBulkEntries {H : Type} : List (Lit × DataW H) → Nat
  | [] => 0
  | x :: r => uptoBulkEntry x + uptoBulkEntries r
def uptoBulkEntry {H : Type} : Lit × DataW H → Nat
  | (.string bytes, d) => bytes.length + uptoBulk d + 1
  | (_, d) => uptoBulk d + 1
 end
def uptoSmall : (H : Type) → List (DataW H) → Bool := fun _ ds => decide (uptoBulkAll ds ≤ 1048576)
def OpenSpec.upto (s : _root_.Go.ChangeSpec) : _root_.Go.OpenSpec := { _root_.Go.OpenSpec.ofChange s with cond := some uptoSmall }

/-- 'laws.FnExactTrueIssue', WHERE WHAT IT READS IS OF BULK AT MOST 1048576: true; the input reads as it did. -/
def fnExactTrueIssueUptoRow : OpenClaim := { program := "ytcnbmephffphgaa", sum := "9651c5125db0b512c5c20939f761475f432bf5177a52c1fb62c32616054b3bb4", func := "loop.example/g01060/laws.FnExactTrueIssue", spec := "fnExactTrueIssue", apart := false, narrowed := true }
def FnExactTrueIssueUptoSaid : Prop := fnExactTrueIssueUptoRow.holds Try.pinned (OpenSpec.upto fnExactTrueIssueSpec)

/-- 'laws.FnExactFirstGap', WHERE WHAT IT READS IS OF BULK AT MOST 1048576: true; the input reads as it did. -/
def fnExactFirstGapUptoRow : OpenClaim := { program := "ytcnbmephffphgaa", sum := "9651c5125db0b512c5c20939f761475f432bf5177a52c1fb62c32616054b3bb4", func := "loop.example/g01060/laws.FnExactFirstGap", spec := "fnExactFirstGap", apart := false, narrowed := true }
def FnExactFirstGapUptoSaid : Prop := fnExactFirstGapUptoRow.holds Try.pinned (OpenSpec.upto fnExactFirstGapSpec)

/-- 'laws.FnExactChangesOf', WHERE WHAT IT READS IS OF BULK AT MOST 1048576: true; the input reads as it did. -/
def fnExactChangesOfUptoRow : OpenClaim := { program := "ytcnbmephffphgaa", sum := "9651c5125db0b512c5c20939f761475f432bf5177a52c1fb62c32616054b3bb4", func := "loop.example/g01060/laws.FnExactChangesOf", spec := "fnExactChangesOf", apart := false, narrowed := true }
def FnExactChangesOfUptoSaid : Prop := fnExactChangesOfUptoRow.holds Try.pinned (OpenSpec.upto fnExactChangesOfSpec)

/-- 'laws.FnExactEndIssue', WHERE WHAT IT READS IS OF BULK AT MOST 1048576: true; the input reads as it did. -/
def fnExactEndIssueUptoRow : OpenClaim := { program := "ytcnbmephffphgaa", sum := "9651c5125db0b512c5c20939f761475f432bf5177a52c1fb62c32616054b3bb4", func := "loop.example/g01060/laws.FnExactEndIssue", spec := "fnExactEndIssue", unfollowed := true, recurses := true, apart := false, narrowed := true }
def FnExactEndIssueUptoSaid : Prop := fnExactEndIssueUptoRow.holds Try.pinned (OpenSpec.upto fnExactEndIssueSpec)

/-- 'laws.FnExactTrueSheets', WHERE WHAT IT READS IS OF BULK AT MOST 1048576: true; the input reads as it did. -/
def fnExactTrueSheetsUptoRow : OpenClaim := { program := "ytcnbmephffphgaa", sum := "9651c5125db0b512c5c20939f761475f432bf5177a52c1fb62c32616054b3bb4", func := "loop.example/g01060/laws.FnExactTrueSheets", spec := "fnExactTrueSheets", unfollowed := true, recurses := true, apart := false, narrowed := true }
def FnExactTrueSheetsUptoSaid : Prop := fnExactTrueSheetsUptoRow.holds Try.pinned (OpenSpec.upto fnExactTrueSheetsSpec)

/-- 'laws.FnExactNeverTrue', WHERE WHAT IT READS IS OF BULK AT MOST 1048576: true; the input reads as it did. -/
def fnExactNeverTrueUptoRow : OpenClaim := { program := "ytcnbmephffphgaa", sum := "9651c5125db0b512c5c20939f761475f432bf5177a52c1fb62c32616054b3bb4", func := "loop.example/g01060/laws.FnExactNeverTrue", spec := "fnExactNeverTrue", unfollowed := true, recurses := true, apart := false, narrowed := true }
def FnExactNeverTrueUptoSaid : Prop := fnExactNeverTrueUptoRow.holds Try.pinned (OpenSpec.upto fnExactNeverTrueSpec)

/-- 'laws.FnExactTrueDays', WHERE WHAT IT READS IS OF BULK AT MOST 1048576: true; the input reads as it did. -/
def fnExactTrueDaysUptoRow : OpenClaim := { program := "ytcnbmephffphgaa", sum := "9651c5125db0b512c5c20939f761475f432bf5177a52c1fb62c32616054b3bb4", func := "loop.example/g01060/laws.FnExactTrueDays", spec := "fnExactTrueDays", unfollowed := true, recurses := true, apart := false, narrowed := true }
def FnExactTrueDaysUptoSaid : Prop := fnExactTrueDaysUptoRow.holds Try.pinned (OpenSpec.upto fnExactTrueDaysSpec)

/-- 'laws.FnExactPutIssue', WHERE WHAT IT READS IS OF BULK AT MOST 1048576: true; the input reads as it did. -/
def fnExactPutIssueUptoRow : OpenClaim := { program := "ytcnbmephffphgaa", sum := "9651c5125db0b512c5c20939f761475f432bf5177a52c1fb62c32616054b3bb4", func := "loop.example/g01060/laws.FnExactPutIssue", spec := "fnExactPutIssue", inPlace := ["slices.overlaps[loop.example/g01060/impl.Issue]"], unfollowed := true, recurses := true, apart := false, narrowed := true }
def FnExactPutIssueUptoSaid : Prop := fnExactPutIssueUptoRow.holds Try.pinned (OpenSpec.upto fnExactPutIssueSpec)

/-- 'laws.FnTrueDays', WHERE WHAT IT READS IS OF BULK AT MOST 1048576: true; the input reads as it did. -/
def fnTrueDaysUptoRow : OpenClaim := { program := "ytcnbmephffphgaa", sum := "9651c5125db0b512c5c20939f761475f432bf5177a52c1fb62c32616054b3bb4", func := "loop.example/g01060/laws.FnTrueDays", spec := "fnTrueDays", unfollowed := true, recurses := true, apart := false, narrowed := true }
def FnTrueDaysUptoSaid : Prop := fnTrueDaysUptoRow.holds Try.pinned (OpenSpec.upto fnTrueDaysSpec)

end Rows
end Go.Proofs.Ytcnbmephffphgaa
