/-
  No cell of these rows narrows 'for every input' (looked for: loops, veiled, ifaces, maps, wideKeys, modest, calm, conditions, laid).
  DERIVED. THE GIVEN ROWS OF THIS SEAT. 6 by the template 'for every input the law returns true; each argument reads behind the call as it read before'; 0 by the template 'total and deterministic' (their statements: YtkneockpbfamkaaTotals.lean).
  GIVEN WITH THE SEED: the statements are not yours to turn. If you find one false, say at which input.
  Laid BY PROGRAM, IN A SANDBOX (cutbox-rows.mjs): the forced cells as the released guide's own fill.sh prints them over the translation a042f896f01ad832… (all of the seat's roots in one cut). By AI agents, Wed Nov 11 2026. No macro, syntax, notation, axiom, sorry.
-/
import Derived.Test.YtkneockpbfamkaaChecked
import GoSem.Claim
import GoSem.ClaimJoined
import GoSem.ClaimMapViews
import Derived.JoinedTies
import Derived.KernelRfl
namespace Go.Proofs.Ytkneockpbfamkaa
/- THE CELL 'sum', in the pinned program and in every row, IS THE sha256 OF THE DUMP (.gsa) THAT YtkneockpbfamkaaProg.lean LOADS. Nothing in Lean hashes anything: it is a label: what it is worth is what the hold of that sum in a sandbox is worth. -/
noncomputable def Try.pinned : Pinned := { name := "ytkneockpbfamkaa", sum := "a042f896f01ad832c753ece4080467fae99ab4d90a72719ae764d87114df5e4e", checked := Try.checked }
namespace Rows
def none {H : Type} : Left H := { results := [], args := [] }

/-- 'laws.FnExactGradeOf': WHATEVER THE INPUT: true; the input reads as it did. -/
def fnExactGradeOfSpec : ChangeSpec := { name := "fnExactGradeOf", fn := fun _ => fun
  | [d] => { results := [.lit (.bool true)], args := [d] }
  | _ => none }
def fnExactGradeOfRow : OpenClaim := { program := "ytkneockpbfamkaa", sum := "a042f896f01ad832c753ece4080467fae99ab4d90a72719ae764d87114df5e4e", func := "loop.example/g01060/laws.FnExactGradeOf", spec := "fnExactGradeOf", apart := false }
def FnExactGradeOfSaid : Prop := fnExactGradeOfRow.holds Try.pinned (OpenSpec.ofChange fnExactGradeOfSpec)

/-- ITS FALSE NEIGHBOUR: 'it returns false'. Refute it at one input. -/
def fnExactGradeOfWrong : ChangeSpec := { name := "fnExactGradeOf", fn := fun _ => fun
  | [d] => { results := [.lit (.bool false)], args := [d] }
  | _ => none }
def FnExactGradeOfWrongFalsely : Prop := fnExactGradeOfRow.holds Try.pinned (OpenSpec.ofChange fnExactGradeOfWrong)

/-- 'laws.FnExactAreDamages': WHATEVER THE INPUT: true; the input reads as it did. -/
def fnExactAreDamagesSpec : ChangeSpec := { name := "fnExactAreDamages", fn := fun _ => fun
  | [d] => { results := [.lit (.bool true)], args := [d] }
  | _ => none }
def fnExactAreDamagesRow : OpenClaim := { program := "ytkneockpbfamkaa", sum := "a042f896f01ad832c753ece4080467fae99ab4d90a72719ae764d87114df5e4e", func := "loop.example/g01060/laws.FnExactAreDamages", spec := "fnExactAreDamages", apart := false }
def FnExactAreDamagesSaid : Prop := fnExactAreDamagesRow.holds Try.pinned (OpenSpec.ofChange fnExactAreDamagesSpec)

/-- ITS FALSE NEIGHBOUR: 'it returns false'. Refute it at one input. -/
def fnExactAreDamagesWrong : ChangeSpec := { name := "fnExactAreDamages", fn := fun _ => fun
  | [d] => { results := [.lit (.bool false)], args := [d] }
  | _ => none }
def FnExactAreDamagesWrongFalsely : Prop := fnExactAreDamagesRow.holds Try.pinned (OpenSpec.ofChange fnExactAreDamagesWrong)

/-- 'laws.FnExactAreRepairs': WHATEVER THE INPUT: true; the input reads as it did. -/
def fnExactAreRepairsSpec : ChangeSpec := { name := "fnExactAreRepairs", fn := fun _ => fun
  | [d1, d2] => { results := [.lit (.bool true)], args := [d1, d2] }
  | _ => none }
def fnExactAreRepairsRow : OpenClaim := { program := "ytkneockpbfamkaa", sum := "a042f896f01ad832c753ece4080467fae99ab4d90a72719ae764d87114df5e4e", func := "loop.example/g01060/laws.FnExactAreRepairs", spec := "fnExactAreRepairs", unfollowed := true, recurses := true, apart := false }
def FnExactAreRepairsSaid : Prop := fnExactAreRepairsRow.holds Try.pinned (OpenSpec.ofChange fnExactAreRepairsSpec)

/-- ITS FALSE NEIGHBOUR: 'it returns false'. Refute it at one input. -/
def fnExactAreRepairsWrong : ChangeSpec := { name := "fnExactAreRepairs", fn := fun _ => fun
  | [d1, d2] => { results := [.lit (.bool false)], args := [d1, d2] }
  | _ => none }
def FnExactAreRepairsWrongFalsely : Prop := fnExactAreRepairsRow.holds Try.pinned (OpenSpec.ofChange fnExactAreRepairsWrong)

/-- 'laws.FnExactAddRepair': WHATEVER THE INPUT: true; the input reads as it did. -/
def fnExactAddRepairSpec : ChangeSpec := { name := "fnExactAddRepair", fn := fun _ => fun
  | [d1, d2, d3] => { results := [.lit (.bool true)], args := [d1, d2, d3] }
  | _ => none }
def fnExactAddRepairRow : OpenClaim := { program := "ytkneockpbfamkaa", sum := "a042f896f01ad832c753ece4080467fae99ab4d90a72719ae764d87114df5e4e", func := "loop.example/g01060/laws.FnExactAddRepair", spec := "fnExactAddRepair", unfollowed := true, recurses := true, apart := false }
def FnExactAddRepairSaid : Prop := fnExactAddRepairRow.holds Try.pinned (OpenSpec.ofChange fnExactAddRepairSpec)

/-- ITS FALSE NEIGHBOUR: 'it returns false'. Refute it at one input. -/
def fnExactAddRepairWrong : ChangeSpec := { name := "fnExactAddRepair", fn := fun _ => fun
  | [d1, d2, d3] => { results := [.lit (.bool false)], args := [d1, d2, d3] }
  | _ => none }
def FnExactAddRepairWrongFalsely : Prop := fnExactAddRepairRow.holds Try.pinned (OpenSpec.ofChange fnExactAddRepairWrong)

/-- 'laws.FnExactCountWorks': WHATEVER THE INPUT: true; the input reads as it did. -/
def fnExactCountWorksSpec : ChangeSpec := { name := "fnExactCountWorks", fn := fun _ => fun
  | [d1, d2] => { results := [.lit (.bool true)], args := [d1, d2] }
  | _ => none }
def fnExactCountWorksRow : OpenClaim := { program := "ytkneockpbfamkaa", sum := "a042f896f01ad832c753ece4080467fae99ab4d90a72719ae764d87114df5e4e", func := "loop.example/g01060/laws.FnExactCountWorks", spec := "fnExactCountWorks", unfollowed := true, recurses := true, apart := false }
def FnExactCountWorksSaid : Prop := fnExactCountWorksRow.holds Try.pinned (OpenSpec.ofChange fnExactCountWorksSpec)

/-- ITS FALSE NEIGHBOUR: 'it returns false'. Refute it at one input. -/
def fnExactCountWorksWrong : ChangeSpec := { name := "fnExactCountWorks", fn := fun _ => fun
  | [d1, d2] => { results := [.lit (.bool false)], args := [d1, d2] }
  | _ => none }
def FnExactCountWorksWrongFalsely : Prop := fnExactCountWorksRow.holds Try.pinned (OpenSpec.ofChange fnExactCountWorksWrong)

/-- 'laws.FnExactUntouchedSheets': WHATEVER THE INPUT: true; the input reads as it did. -/
def fnExactUntouchedSheetsSpec : ChangeSpec := { name := "fnExactUntouchedSheets", fn := fun _ => fun
  | [d1, d2] => { results := [.lit (.bool true)], args := [d1, d2] }
  | _ => none }
def fnExactUntouchedSheetsRow : OpenClaim := { program := "ytkneockpbfamkaa", sum := "a042f896f01ad832c753ece4080467fae99ab4d90a72719ae764d87114df5e4e", func := "loop.example/g01060/laws.FnExactUntouchedSheets", spec := "fnExactUntouchedSheets", unfollowed := true, recurses := true, apart := false }
def FnExactUntouchedSheetsSaid : Prop := fnExactUntouchedSheetsRow.holds Try.pinned (OpenSpec.ofChange fnExactUntouchedSheetsSpec)

/-- ITS FALSE NEIGHBOUR: 'it returns false'. Refute it at one input. -/
def fnExactUntouchedSheetsWrong : ChangeSpec := { name := "fnExactUntouchedSheets", fn := fun _ => fun
  | [d1, d2] => { results := [.lit (.bool false)], args := [d1, d2] }
  | _ => none }
def FnExactUntouchedSheetsWrongFalsely : Prop := fnExactUntouchedSheetsRow.holds Try.pinned (OpenSpec.ofChange fnExactUntouchedSheetsWrong)

/- THE SECOND FORM. 'bulk': how many values and letters a reading holds, each counted each time it is reached (what is shared counts as often as it is met; a slice's spare places count too). A statement '..UptoSaid' is the law's where the arguments, and the package variables that the reading takes, are together of bulk at most 1048576: NARROWER than '..Said'. Prove '..Said' where nothing that the law and all that it calls make is longer than what came in: it says more and counts as full. Else prove '..UptoSaid'. A law counts once. -/
mutual
def uptoBulk {H : Type} : DataW H → Nat
  | .lit (.string bytes) => bytes.length + 1
  | .lit _ => 1
  | .nil => 1
  | .ptr d => uptoBulk d + 1
  | .slice elems spare => uptoBulkAll elems + uptoBulkAll spare + 1
  | .agg parts => uptoBulkAll parts + 1
  | .iface _ d => uptoBulk d + 1
  | .map entries => uptoBulkEntries entries + 1
  | .held _ => 1
def uptoBulkAll {H : Type} : List (DataW H) → Nat
  | [] => 0
  | d :: r => uptoBulk d + uptoBulkAll r
def uptoBulkEntries {H : Type} : List (Lit × DataW H) → Nat
  | [] => 0
  | x :: r => uptoBulkEntry x + uptoBulkEntries r
def uptoBulkEntry {H : Type} : Lit × DataW H → Nat
  | (.string bytes, d) => bytes.length + uptoBulk d + 1
  | (_, d) => uptoBulk d + 1
 end
def uptoSmall : (H : Type) → List (DataW H) → Bool := fun _ ds => decide (uptoBulkAll ds ≤ 1048576)
def OpenSpec.upto (s : _root_.Go.ChangeSpec) : _root_.Go.OpenSpec := { _root_.Go.OpenSpec.ofChange s with cond := some uptoSmall }

/-- 'laws.FnExactGradeOf', WHERE WHAT IT READS IS OF BULK AT MOST 1048576: true; the input reads as it did. -/
def fnExactGradeOfUptoRow : OpenClaim := { program := "ytkneockpbfamkaa", sum := "a042f896f01ad832c753ece4080467fae99ab4d90a72719ae764d87114df5e4e", func := "loop.example/g01060/laws.FnExactGradeOf", spec := "fnExactGradeOf", apart := false, narrowed := true }
def FnExactGradeOfUptoSaid : Prop := fnExactGradeOfUptoRow.holds Try.pinned (OpenSpec.upto fnExactGradeOfSpec)

/-- 'laws.FnExactAreDamages', WHERE WHAT IT READS IS OF BULK AT MOST 1048576: true; the input reads as it did. -/
def fnExactAreDamagesUptoRow : OpenClaim := { program := "ytkneockpbfamkaa", sum := "a042f896f01ad832c753ece4080467fae99ab4d90a72719ae764d87114df5e4e", func := "loop.example/g01060/laws.FnExactAreDamages", spec := "fnExactAreDamages", apart := false, narrowed := true }
def FnExactAreDamagesUptoSaid : Prop := fnExactAreDamagesUptoRow.holds Try.pinned (OpenSpec.upto fnExactAreDamagesSpec)

/-- 'laws.FnExactAreRepairs', WHERE WHAT IT READS IS OF BULK AT MOST 1048576: true; the input reads as it did. -/
def fnExactAreRepairsUptoRow : OpenClaim := { program := "ytkneockpbfamkaa", sum := "a042f896f01ad832c753ece4080467fae99ab4d90a72719ae764d87114df5e4e", func := "loop.example/g01060/laws.FnExactAreRepairs", spec := "fnExactAreRepairs", unfollowed := true, recurses := true, apart := false, narrowed := true }
def FnExactAreRepairsUptoSaid : Prop := fnExactAreRepairsUptoRow.holds Try.pinned (OpenSpec.upto fnExactAreRepairsSpec)

/-- 'laws.FnExactAddRepair', WHERE WHAT IT READS IS OF BULK AT MOST 1048576: true; the input reads as it did. -/
def fnExactAddRepairUptoRow : OpenClaim := { program := "ytkneockpbfamkaa", sum := "a042f896f01ad832c753ece4080467fae99ab4d90a72719ae764d87114df5e4e", func := "loop.example/g01060/laws.FnExactAddRepair", spec := "fnExactAddRepair", unfollowed := true, recurses := true, apart := false, narrowed := true }
def FnExactAddRepairUptoSaid : Prop := fnExactAddRepairUptoRow.holds Try.pinned (OpenSpec.upto fnExactAddRepairSpec)

/-- 'laws.FnExactCountWorks', WHERE WHAT IT READS IS OF BULK AT MOST 1048576: true; the input reads as it did. -/
def fnExactCountWorksUptoRow : OpenClaim := { program := "ytkneockpbfamkaa", sum := "a042f896f01ad832c753ece4080467fae99ab4d90a72719ae764d87114df5e4e", func := "loop.example/g01060/laws.FnExactCountWorks", spec := "fnExactCountWorks", unfollowed := true, recurses := true, apart := false, narrowed := true }
def FnExactCountWorksUptoSaid : Prop := fnExactCountWorksUptoRow.holds Try.pinned (OpenSpec.upto fnExactCountWorksSpec)

/-- 'laws.FnExactUntouchedSheets', WHERE WHAT IT READS IS OF BULK AT MOST 1048576: true; the input reads as it did. -/
def fnExactUntouchedSheetsUptoRow : OpenClaim := { program := "ytkneockpbfamkaa", sum := "a042f896f01ad832c753ece4080467fae99ab4d90a72719ae764d87114df5e4e", func := "loop.example/g01060/laws.FnExactUntouchedSheets", spec := "fnExactUntouchedSheets", unfollowed := true, recurses := true, apart := false, narrowed := true }
def FnExactUntouchedSheetsUptoSaid : Prop := fnExactUntouchedSheetsUptoRow.holds Try.pinned (OpenSpec.upto fnExactUntouchedSheetsSpec)

end Rows
end Go.Proofs.Ytkneockpbfamkaa
