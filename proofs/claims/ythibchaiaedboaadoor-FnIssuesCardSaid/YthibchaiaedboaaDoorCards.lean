/-
  DERIVED. GIVEN WITH THE SEED: THE CARDS: each row of YthibchaiaedboaaDoorRows.lean that lists a variable, with what it lists TIED to the program's text (the seventh form; the later family's looks); each row that meets fmt, with fmt's text TOLD by the authors' own Lean function (tested against real Go, not proved from fmt's source: count such statements apart). THE CARD IS WHAT COUNTS. Prove the row's statement (the work); the ties are given (YthibchaiaedboaaDoorTie.lean); close each card by the builder's one call (the guide's Derived/Test/ToyasCard.lean, 'card_holds'). Laid BY PROGRAM, IN A SANDBOX (cutbox-door.mjs). By AI agents, Wed Nov 11 2026. No macro, syntax, notation, axiom, sorry.
-/
import Derived.Test.YthibchaiaedboaaDoorRows
import GoSem.ClaimSeven
namespace Go.Proofs.YthibchaiaedboaaDoor
namespace Rows

/-- THE TIED CARD OF 'laws.FnIssues'. -/
def fnIssuesCard : Claim7 := { stood := { row := fnIssuesRow, standIns := [], harness := (true, "1d68db06065174e31151337e3dc311e7540020f2bb4e1c1c7f2a34d63cd3b098"), looks := false }, kinds := [], alts := [], laidByText := true, laidKinds := [.data, .data, .data], laidTests := true, laidLooks := .later }
def FnIssuesCardSaid : Prop := Claim7.holds Tryd.pinned (.plain (OpenSpec.ofChange fnIssuesSpec)) fnIssuesCard

/-- THE TIED CARD OF 'laws.FnExactClashesOf'. -/
def fnExactClashesOfCard : Claim7 := { stood := { row := fnExactClashesOfRow, standIns := [], harness := (true, "1d68db06065174e31151337e3dc311e7540020f2bb4e1c1c7f2a34d63cd3b098"), looks := false }, kinds := [], alts := [], laidByText := true, laidKinds := [.data, .data, .data], laidTests := true, laidLooks := .later }
def FnExactClashesOfCardSaid : Prop := Claim7.holds Tryd.pinned (.plain (OpenSpec.ofChange fnExactClashesOfSpec)) fnExactClashesOfCard

/-- THE TIED CARD OF 'laws.FnEntries'. -/
def fnEntriesCard : Claim7 := { stood := { row := fnEntriesRow, standIns := [], harness := (true, "1d68db06065174e31151337e3dc311e7540020f2bb4e1c1c7f2a34d63cd3b098"), looks := false }, kinds := [], alts := [], laidByText := true, laidKinds := [.data, .data, .data], laidTests := true, laidLooks := .later }
def FnEntriesCardSaid : Prop := Claim7.holds Tryd.pinned (.plain (OpenSpec.ofChange fnEntriesSpec)) fnEntriesCard

/-- THE SECOND FORM's CARD OF 'laws.FnIssues'. -/
def fnIssuesUptoCard : Claim7 := { stood := { row := fnIssuesUptoRow, standIns := [], harness := (true, "1d68db06065174e31151337e3dc311e7540020f2bb4e1c1c7f2a34d63cd3b098"), looks := false }, kinds := [], alts := [], laidByText := true, laidKinds := [.data, .data, .data], laidTests := true, laidLooks := .later }
def FnIssuesUptoCardSaid : Prop := Claim7.holds Tryd.pinned (.plain (OpenSpec.upto fnIssuesSpec)) fnIssuesUptoCard

/-- THE SECOND FORM's CARD OF 'laws.FnExactClashesOf'. -/
def fnExactClashesOfUptoCard : Claim7 := { stood := { row := fnExactClashesOfUptoRow, standIns := [], harness := (true, "1d68db06065174e31151337e3dc311e7540020f2bb4e1c1c7f2a34d63cd3b098"), looks := false }, kinds := [], alts := [], laidByText := true, laidKinds := [.data, .data, .data], laidTests := true, laidLooks := .later }
def FnExactClashesOfUptoCardSaid : Prop := Claim7.holds Tryd.pinned (.plain (OpenSpec.upto fnExactClashesOfSpec)) fnExactClashesOfUptoCard

/-- THE SECOND FORM's CARD OF 'laws.FnEntries'. -/
def fnEntriesUptoCard : Claim7 := { stood := { row := fnEntriesUptoRow, standIns := [], harness := (true, "1d68db06065174e31151337e3dc311e7540020f2bb4e1c1c7f2a34d63cd3b098"), looks := false }, kinds := [], alts := [], laidByText := true, laidKinds := [.data, .data, .data], laidTests := true, laidLooks := .later }
def FnEntriesUptoCardSaid : Prop := Claim7.holds Tryd.pinned (.plain (OpenSpec.upto fnEntriesSpec)) fnEntriesUptoCard
end Rows
end Go.Proofs.YthibchaiaedboaaDoor
