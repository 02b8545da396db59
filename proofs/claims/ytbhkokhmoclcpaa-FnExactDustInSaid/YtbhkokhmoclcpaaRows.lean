/-
  No cell of these rows narrows 'for every input' (looked for: loops, veiled, ifaces, maps, wideKeys, modest, calm, conditions, laid).
  DERIVED. THE GIVEN ROWS OF THIS SEAT. 5 by the template 'for every input the law returns true; each argument reads behind the call as it read before'; 0 by the template 'total and deterministic' (their statements: YtbhkokhmoclcpaaTotals.lean).
  GIVEN WITH THE SEED: the statements are not yours to turn. If you find one false, say at which input.
  Laid BY PROGRAM, IN A SANDBOX (cutbox-rows.mjs): the forced cells as the released guide's own fill.sh prints them over the translation 6ab788361628abd4… (all of the seat's roots in one cut). By AI agents, Wed Nov 11 2026. No macro, syntax, notation, axiom, sorry.
-/
import Derived.Test.YtbhkokhmoclcpaaChecked
import GoSem.Claim
import GoSem.ClaimJoined
import GoSem.ClaimMapViews
import Derived.JoinedTies
import Derived.KernelRfl
namespace Go.Proofs.Ytbhkokhmoclcpaa
/- THE CELL 'sum', in the pinned program and in every row, IS THE sha256 OF THE DUMP (.gsa) THAT YtbhkokhmoclcpaaProg.lean LOADS. Nothing in Lean hashes anything: it is a label: what it is worth is what the hold of that sum in a sandbox is worth. -/
noncomputable def Try.pinned : Pinned := { name := "ytbhkokhmoclcpaa", sum := "6ab788361628abd43e323d2a3f443d10f50a55ca94b311d528d9880041dd54dc", checked := Try.checked }
namespace Rows
def none {H : Type} : Left H := { results := [], args := [] }

/-- 'laws.FnExactIsChest': WHATEVER THE INPUT: true; the input reads as it did. -/
def fnExactIsChestSpec : ChangeSpec := { name := "fnExactIsChest", fn := fun _ => fun
  | [d] => { results := [.lit (.bool true)], args := [d] }
  | _ => none }
def fnExactIsChestRow : OpenClaim := { program := "ytbhkokhmoclcpaa", sum := "6ab788361628abd43e323d2a3f443d10f50a55ca94b311d528d9880041dd54dc", func := "loop.example/g01060/laws.FnExactIsChest", spec := "fnExactIsChest", apart := false }
def FnExactIsChestSaid : Prop := fnExactIsChestRow.holds Try.pinned (OpenSpec.ofChange fnExactIsChestSpec)

/-- ITS FALSE NEIGHBOUR: 'it returns false'. Refute it at one input. -/
def fnExactIsChestWrong : ChangeSpec := { name := "fnExactIsChest", fn := fun _ => fun
  | [d] => { results := [.lit (.bool false)], args := [d] }
  | _ => none }
def FnExactIsChestWrongFalsely : Prop := fnExactIsChestRow.holds Try.pinned (OpenSpec.ofChange fnExactIsChestWrong)

/-- 'laws.FnExactTopMap': WHATEVER THE INPUT: true; the input reads as it did. -/
def fnExactTopMapSpec : ChangeSpec := { name := "fnExactTopMap", fn := fun _ => fun
  | [d] => { results := [.lit (.bool true)], args := [d] }
  | _ => none }
def fnExactTopMapRow : OpenClaim := { program := "ytbhkokhmoclcpaa", sum := "6ab788361628abd43e323d2a3f443d10f50a55ca94b311d528d9880041dd54dc", func := "loop.example/g01060/laws.FnExactTopMap", spec := "fnExactTopMap", apart := false }
def FnExactTopMapSaid : Prop := fnExactTopMapRow.holds Try.pinned (OpenSpec.ofChange fnExactTopMapSpec)

/-- ITS FALSE NEIGHBOUR: 'it returns false'. Refute it at one input. -/
def fnExactTopMapWrong : ChangeSpec := { name := "fnExactTopMap", fn := fun _ => fun
  | [d] => { results := [.lit (.bool false)], args := [d] }
  | _ => none }
def FnExactTopMapWrongFalsely : Prop := fnExactTopMapRow.holds Try.pinned (OpenSpec.ofChange fnExactTopMapWrong)

/-- 'laws.FnExactMapsAbove': WHATEVER THE INPUT: true; the input reads as it did. -/
def fnExactMapsAboveSpec : ChangeSpec := { name := "fnExactMapsAbove", fn := fun _ => fun
  | [d1, d2] => { results := [.lit (.bool true)], args := [d1, d2] }
  | _ => none }
def fnExactMapsAboveRow : OpenClaim := { program := "ytbhkokhmoclcpaa", sum := "6ab788361628abd43e323d2a3f443d10f50a55ca94b311d528d9880041dd54dc", func := "loop.example/g01060/laws.FnExactMapsAbove", spec := "fnExactMapsAbove", apart := false }
def FnExactMapsAboveSaid : Prop := fnExactMapsAboveRow.holds Try.pinned (OpenSpec.ofChange fnExactMapsAboveSpec)

/-- ITS FALSE NEIGHBOUR: 'it returns false'. Refute it at one input. -/
def fnExactMapsAboveWrong : ChangeSpec := { name := "fnExactMapsAbove", fn := fun _ => fun
  | [d1, d2] => { results := [.lit (.bool false)], args := [d1, d2] }
  | _ => none }
def FnExactMapsAboveWrongFalsely : Prop := fnExactMapsAboveRow.holds Try.pinned (OpenSpec.ofChange fnExactMapsAboveWrong)

/-- 'laws.FnExactStepsToOpen': WHATEVER THE INPUT: true; the input reads as it did. -/
def fnExactStepsToOpenSpec : ChangeSpec := { name := "fnExactStepsToOpen", fn := fun _ => fun
  | [d] => { results := [.lit (.bool true)], args := [d] }
  | _ => none }
def fnExactStepsToOpenRow : OpenClaim := { program := "ytbhkokhmoclcpaa", sum := "6ab788361628abd43e323d2a3f443d10f50a55ca94b311d528d9880041dd54dc", func := "loop.example/g01060/laws.FnExactStepsToOpen", spec := "fnExactStepsToOpen", apart := false }
def FnExactStepsToOpenSaid : Prop := fnExactStepsToOpenRow.holds Try.pinned (OpenSpec.ofChange fnExactStepsToOpenSpec)

/-- ITS FALSE NEIGHBOUR: 'it returns false'. Refute it at one input. -/
def fnExactStepsToOpenWrong : ChangeSpec := { name := "fnExactStepsToOpen", fn := fun _ => fun
  | [d] => { results := [.lit (.bool false)], args := [d] }
  | _ => none }
def FnExactStepsToOpenWrongFalsely : Prop := fnExactStepsToOpenRow.holds Try.pinned (OpenSpec.ofChange fnExactStepsToOpenWrong)

/-- 'laws.FnExactDustIn': WHATEVER THE INPUT: true; the input reads as it did. -/
def fnExactDustInSpec : ChangeSpec := { name := "fnExactDustIn", fn := fun _ => fun
  | [d1, d2] => { results := [.lit (.bool true)], args := [d1, d2] }
  | _ => none }
def fnExactDustInRow : OpenClaim := { program := "ytbhkokhmoclcpaa", sum := "6ab788361628abd43e323d2a3f443d10f50a55ca94b311d528d9880041dd54dc", func := "loop.example/g01060/laws.FnExactDustIn", spec := "fnExactDustIn", apart := false }
def FnExactDustInSaid : Prop := fnExactDustInRow.holds Try.pinned (OpenSpec.ofChange fnExactDustInSpec)

/-- ITS FALSE NEIGHBOUR: 'it returns false'. Refute it at one input. -/
def fnExactDustInWrong : ChangeSpec := { name := "fnExactDustIn", fn := fun _ => fun
  | [d1, d2] => { results := [.lit (.bool false)], args := [d1, d2] }
  | _ => none }
def FnExactDustInWrongFalsely : Prop := fnExactDustInRow.holds Try.pinned (OpenSpec.ofChange fnExactDustInWrong)

/- THE SECOND FORM. 'bulk': how many values and letters a reading holds, each counted each time it is reached (what is shared counts as often as it is met; a slice's spare places count too). A statement '..UptoSaid' is the law's where the arguments, and the package variables that the reading takes, are together of bulk at most 1048576: NARROWER than '..Said'. Prove '..Said' where nothing that the law and all that it calls make is longer than what came in: it says more and counts as full. Else prove '..UptoSaid'. A law counts once. -/
mutual
def uptoBulk {H : Type} : DataW H → Nat
  | .lit (.string bytes) => bytes.length + 1
  | .lit _ => 1
  | .nil => 1
  | .ptr d => uptoBulk d + 1
  | .slice elems spare => uptoBulkAll elems + uptoBulkAll spare + 1
  | .agg parts => uptoBulkAll parts + 1
  | .iface _ d => uptoBulk d + 1
  | .map entries => uptoBulkEntries entries + 1
  | .held _ => 1
def uptoBulkAll {H : Type} : List (DataW H) → Nat
  | [] => 0
  | d :: r => uptoBulk d + uptoBulkAll r
def uptoBulkEntries {H : Type} : List (Lit × DataW H) → Nat
  | [] => 0
  | x :: r => uptoBulkEntry x + uptoBulkEntries r
def uptoBulkEntry {H : Type} : Lit × DataW H → Nat
  | (.string bytes, d) => bytes.length + uptoBulk d + 1
  | (_, d) => uptoBulk d + 1
 end
def uptoSmall : (H : Type) → List (DataW H) → Bool := fun _ ds => decide (uptoBulkAll ds ≤ 1048576)
def OpenSpec.upto (s : _root_.Go.ChangeSpec) : _root_.Go.OpenSpec := { _root_.Go.OpenSpec.ofChange s with cond := some uptoSmall }

/-- 'laws.FnExactIsChest', WHERE WHAT IT READS IS OF BULK AT MOST 1048576: true; the input reads as it did. -/
def fnExactIsChestUptoRow : OpenClaim := { program := "ytbhkokhmoclcpaa", sum := "6ab788361628abd43e323d2a3f443d10f50a55ca94b311d528d9880041dd54dc", func := "loop.example/g01060/laws.FnExactIsChest", spec := "fnExactIsChest", apart := false, narrowed := true }
def FnExactIsChestUptoSaid : Prop := fnExactIsChestUptoRow.holds Try.pinned (OpenSpec.upto fnExactIsChestSpec)

/-- 'laws.FnExactTopMap', WHERE WHAT IT READS IS OF BULK AT MOST 1048576: true; the input reads as it did. -/
def fnExactTopMapUptoRow : OpenClaim := { program := "ytbhkokhmoclcpaa", sum := "6ab788361628abd43e323d2a3f443d10f50a55ca94b311d528d9880041dd54dc", func := "loop.example/g01060/laws.FnExactTopMap", spec := "fnExactTopMap", apart := false, narrowed := true }
def FnExactTopMapUptoSaid : Prop := fnExactTopMapUptoRow.holds Try.pinned (OpenSpec.upto fnExactTopMapSpec)

/-- 'laws.FnExactMapsAbove', WHERE WHAT IT READS IS OF BULK AT MOST 1048576: true; the input reads as it did. -/
def fnExactMapsAboveUptoRow : OpenClaim := { program := "ytbhkokhmoclcpaa", sum := "6ab788361628abd43e323d2a3f443d10f50a55ca94b311d528d9880041dd54dc", func := "loop.example/g01060/laws.FnExactMapsAbove", spec := "fnExactMapsAbove", apart := false, narrowed := true }
def FnExactMapsAboveUptoSaid : Prop := fnExactMapsAboveUptoRow.holds Try.pinned (OpenSpec.upto fnExactMapsAboveSpec)

/-- 'laws.FnExactStepsToOpen', WHERE WHAT IT READS IS OF BULK AT MOST 1048576: true; the input reads as it did. -/
def fnExactStepsToOpenUptoRow : OpenClaim := { program := "ytbhkokhmoclcpaa", sum := "6ab788361628abd43e323d2a3f443d10f50a55ca94b311d528d9880041dd54dc", func := "loop.example/g01060/laws.FnExactStepsToOpen", spec := "fnExactStepsToOpen", apart := false, narrowed := true }
def FnExactStepsToOpenUptoSaid : Prop := fnExactStepsToOpenUptoRow.holds Try.pinned (OpenSpec.upto fnExactStepsToOpenSpec)

/-- 'laws.FnExactDustIn', WHERE WHAT IT READS IS OF BULK AT MOST 1048576: true; the input reads as it did. -/
def fnExactDustInUptoRow : OpenClaim := { program := "ytbhkokhmoclcpaa", sum := "6ab788361628abd43e323d2a3f443d10f50a55ca94b311d528d9880041dd54dc", func := "loop.example/g01060/laws.FnExactDustIn", spec := "fnExactDustIn", apart := false, narrowed := true }
def FnExactDustInUptoSaid : Prop := fnExactDustInUptoRow.holds Try.pinned (OpenSpec.upto fnExactDustInSpec)

end Rows
end Go.Proofs.Ytbhkokhmoclcpaa
