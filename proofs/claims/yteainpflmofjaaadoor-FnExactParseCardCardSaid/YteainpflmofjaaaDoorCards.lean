/-
  DERIVED. GIVEN WITH THE SEED: THE CARDS: each row of YteainpflmofjaaaDoorRows.lean that lists a variable, with what it lists TIED to the program's text (the seventh form; the later family's looks); each row that meets fmt, with fmt's text TOLD by the authors' own Lean function (tested against real Go, not proved from fmt's source: count such statements apart). THE CARD IS WHAT COUNTS. Prove the row's statement (the work); the ties are given (YteainpflmofjaaaDoorTie.lean); close each card by the builder's one call (the guide's Derived/Test/ToyasCard.lean, 'card_holds'). Laid BY PROGRAM, IN A SANDBOX (cutbox-door.mjs). By AI agents, Wed Nov 11 2026. No macro, syntax, notation, axiom, sorry.
-/
import Derived.Test.YteainpflmofjaaaDoorRows
import GoSem.ClaimSeven
namespace Go.Proofs.YteainpflmofjaaaDoor
namespace Rows

/-- THE TIED CARD OF 'laws.FnExactParseCard'. -/
def fnExactParseCardCard : Claim7 := { stood := { row := fnExactParseCardRow, standIns := [], harness := (true, "07e446ec1dc8f831b7a4b7d9f1354aa339f4c11370c48d38c75d93efe25ab22d"), looks := true }, kinds := [], alts := [], laidByText := true, laidKinds := [.data, .data, .data, .data, .sentinel, .sentinel, .pinned], laidTests := true, laidLooks := .later }
def FnExactParseCardCardSaid : Prop := Claim7.holds Tryd.pinned (.plain (OpenSpec.ofChange fnExactParseCardSpec)) fnExactParseCardCard

/-- THE TIED CARD OF 'laws.FnExactClashesOf'. -/
def fnExactClashesOfCard : Claim7 := { stood := { row := fnExactClashesOfRow, standIns := [], harness := (true, "07e446ec1dc8f831b7a4b7d9f1354aa339f4c11370c48d38c75d93efe25ab22d"), looks := true }, kinds := [], alts := [], laidByText := true, laidKinds := [.data, .data, .data], laidTests := true, laidLooks := .later }
def FnExactClashesOfCardSaid : Prop := Claim7.holds Tryd.pinned (.plain (OpenSpec.ofChange fnExactClashesOfSpec)) fnExactClashesOfCard

/-- THE TIED CARD OF 'laws.FnEntries'. -/
def fnEntriesCard : Claim7 := { stood := { row := fnEntriesRow, standIns := [], harness := (true, "07e446ec1dc8f831b7a4b7d9f1354aa339f4c11370c48d38c75d93efe25ab22d"), looks := true }, kinds := [], alts := [], laidByText := true, laidKinds := [.data, .data, .data], laidTests := true, laidLooks := .later }
def FnEntriesCardSaid : Prop := Claim7.holds Tryd.pinned (.plain (OpenSpec.ofChange fnEntriesSpec)) fnEntriesCard

/-- THE SECOND FORM's CARD OF 'laws.FnExactParseCard'. -/
def fnExactParseCardUptoCard : Claim7 := { stood := { row := fnExactParseCardUptoRow, standIns := [], harness := (true, "07e446ec1dc8f831b7a4b7d9f1354aa339f4c11370c48d38c75d93efe25ab22d"), looks := true }, kinds := [], alts := [], laidByText := true, laidKinds := [.data, .data, .data, .data, .sentinel, .sentinel, .pinned], laidTests := true, laidLooks := .later }
def FnExactParseCardUptoCardSaid : Prop := Claim7.holds Tryd.pinned (.plain (OpenSpec.upto fnExactParseCardSpec)) fnExactParseCardUptoCard

/-- THE SECOND FORM's CARD OF 'laws.FnExactClashesOf'. -/
def fnExactClashesOfUptoCard : Claim7 := { stood := { row := fnExactClashesOfUptoRow, standIns := [], harness := (true, "07e446ec1dc8f831b7a4b7d9f1354aa339f4c11370c48d38c75d93efe25ab22d"), looks := true }, kinds := [], alts := [], laidByText := true, laidKinds := [.data, .data, .data], laidTests := true, laidLooks := .later }
def FnExactClashesOfUptoCardSaid : Prop := Claim7.holds Tryd.pinned (.plain (OpenSpec.upto fnExactClashesOfSpec)) fnExactClashesOfUptoCard

/-- THE SECOND FORM's CARD OF 'laws.FnEntries'. -/
def fnEntriesUptoCard : Claim7 := { stood := { row := fnEntriesUptoRow, standIns := [], harness := (true, "07e446ec1dc8f831b7a4b7d9f1354aa339f4c11370c48d38c75d93efe25ab22d"), looks := true }, kinds := [], alts := [], laidByText := true, laidKinds := [.data, .data, .data], laidTests := true, laidLooks := .later }
def FnEntriesUptoCardSaid : Prop := Claim7.holds Tryd.pinned (.plain (OpenSpec.upto fnEntriesSpec)) fnEntriesUptoCard
end Rows
end Go.Proofs.YteainpflmofjaaaDoor
