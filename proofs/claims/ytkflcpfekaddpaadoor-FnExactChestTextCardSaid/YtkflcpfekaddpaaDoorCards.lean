/-
  DERIVED. GIVEN WITH THE SEED: THE CARDS: each row of YtkflcpfekaddpaaDoorRows.lean that lists a variable, with what it lists TIED to the program's text (the seventh form; the later family's looks); each row that meets fmt, with fmt's text TOLD by the authors' own Lean function (tested against real Go, not proved from fmt's source: count such statements apart). THE CARD IS WHAT COUNTS. Prove the row's statement (the work); the ties are given (YtkflcpfekaddpaaDoorTie.lean); close each card by the builder's one call (the guide's Derived/Test/ToyasCard.lean, 'card_holds'). Laid BY PROGRAM, IN A SANDBOX (cutbox-door.mjs). By AI agents, Wed Nov 11 2026. No macro, syntax, notation, axiom, sorry.
-/
import Derived.Test.YtkflcpfekaddpaaDoorRows
import GoSem.ClaimSeven
namespace Go.Proofs.YtkflcpfekaddpaaDoor
namespace Rows

/-- THE TIED CARD OF 'laws.FnExactIssueText'. -/
def fnExactIssueTextCard : Claim7 := { stood := { row := fnExactIssueTextRow, standIns := [], harness := (true, "37a9ba84e2e710b20049f3aea288affca25b979b9b0de29adfd51b67a2d5f9c7"), looks := false }, kinds := [], alts := [], laidByText := true, laidKinds := [.data, .data, .data], laidTests := true, laidLooks := .later }
def FnExactIssueTextCardSaid : Prop := Claim7.holds Tryd.pinned (.plain (OpenSpec.ofChange fnExactIssueTextSpec)) fnExactIssueTextCard

/-- THE TIED CARD OF 'laws.FnIssues'. -/
def fnIssuesCard : Claim7 := { stood := { row := fnIssuesRow, standIns := [], harness := (true, "37a9ba84e2e710b20049f3aea288affca25b979b9b0de29adfd51b67a2d5f9c7"), looks := false }, kinds := [], alts := [], laidByText := true, laidKinds := [.data, .data, .data], laidTests := true, laidLooks := .later }
def FnIssuesCardSaid : Prop := Claim7.holds Tryd.pinned (.plain (OpenSpec.ofChange fnIssuesSpec)) fnIssuesCard

/-- THE TIED CARD OF 'laws.FnExactChestText'. -/
def fnExactChestTextCard : Claim7 := { stood := { row := fnExactChestTextRow, standIns := [], harness := (true, "37a9ba84e2e710b20049f3aea288affca25b979b9b0de29adfd51b67a2d5f9c7"), looks := false }, kinds := [], alts := [], laidByText := true, laidKinds := [.data, .data, .data], laidTests := true, laidLooks := .later }
def FnExactChestTextCardSaid : Prop := Claim7.holds Tryd.pinned (.plain (OpenSpec.ofChange fnExactChestTextSpec)) fnExactChestTextCard

/-- THE TIED CARD OF 'laws.FnExactDamageText'. -/
def fnExactDamageTextCard : Claim7 := { stood := { row := fnExactDamageTextRow, standIns := [], harness := (true, "37a9ba84e2e710b20049f3aea288affca25b979b9b0de29adfd51b67a2d5f9c7"), looks := false }, kinds := [], alts := [], laidByText := true, laidKinds := [.data, .data, .data], laidTests := true, laidLooks := .later }
def FnExactDamageTextCardSaid : Prop := Claim7.holds Tryd.pinned (.plain (OpenSpec.ofChange fnExactDamageTextSpec)) fnExactDamageTextCard

/-- THE TIED CARD OF 'laws.FnExactEntryText'. -/
def fnExactEntryTextCard : Claim7 := { stood := { row := fnExactEntryTextRow, standIns := [], harness := (true, "37a9ba84e2e710b20049f3aea288affca25b979b9b0de29adfd51b67a2d5f9c7"), looks := false }, kinds := [], alts := [], laidByText := true, laidKinds := [.data, .data, .data], laidTests := true, laidLooks := .later }
def FnExactEntryTextCardSaid : Prop := Claim7.holds Tryd.pinned (.plain (OpenSpec.ofChange fnExactEntryTextSpec)) fnExactEntryTextCard

/-- THE TIED CARD OF 'laws.FnExactClashesOf'. -/
def fnExactClashesOfCard : Claim7 := { stood := { row := fnExactClashesOfRow, standIns := [], harness := (true, "37a9ba84e2e710b20049f3aea288affca25b979b9b0de29adfd51b67a2d5f9c7"), looks := false }, kinds := [], alts := [], laidByText := true, laidKinds := [.data, .data, .data], laidTests := true, laidLooks := .later }
def FnExactClashesOfCardSaid : Prop := Claim7.holds Tryd.pinned (.plain (OpenSpec.ofChange fnExactClashesOfSpec)) fnExactClashesOfCard

/-- THE TIED CARD OF 'laws.FnEntries'. -/
def fnEntriesCard : Claim7 := { stood := { row := fnEntriesRow, standIns := [], harness := (true, "37a9ba84e2e710b20049f3aea288affca25b979b9b0de29adfd51b67a2d5f9c7"), looks := false }, kinds := [], alts := [], laidByText := true, laidKinds := [.data, .data, .data], laidTests := true, laidLooks := .later }
def FnEntriesCardSaid : Prop := Claim7.holds Tryd.pinned (.plain (OpenSpec.ofChange fnEntriesSpec)) fnEntriesCard

/-- THE SECOND FORM's CARD OF 'laws.FnExactIssueText'. -/
def fnExactIssueTextUptoCard : Claim7 := { stood := { row := fnExactIssueTextUptoRow, standIns := [], harness := (true, "37a9ba84e2e710b20049f3aea288affca25b979b9b0de29adfd51b67a2d5f9c7"), looks := false }, kinds := [], alts := [], laidByText := true, laidKinds := [.data, .data, .data], laidTests := true, laidLooks := .later }
def FnExactIssueTextUptoCardSaid : Prop := Claim7.holds Tryd.pinned (.plain (OpenSpec.upto fnExactIssueTextSpec)) fnExactIssueTextUptoCard

/-- THE SECOND FORM's CARD OF 'laws.FnIssues'. -/
def fnIssuesUptoCard : Claim7 := { stood := { row := fnIssuesUptoRow, standIns := [], harness := (true, "37a9ba84e2e710b20049f3aea288affca25b979b9b0de29adfd51b67a2d5f9c7"), looks := false }, kinds := [], alts := [], laidByText := true, laidKinds := [.data, .data, .data], laidTests := true, laidLooks := .later }
def FnIssuesUptoCardSaid : Prop := Claim7.holds Tryd.pinned (.plain (OpenSpec.upto fnIssuesSpec)) fnIssuesUptoCard

/-- THE SECOND FORM's CARD OF 'laws.FnExactChestText'. -/
def fnExactChestTextUptoCard : Claim7 := { stood := { row := fnExactChestTextUptoRow, standIns := [], harness := (true, "37a9ba84e2e710b20049f3aea288affca25b979b9b0de29adfd51b67a2d5f9c7"), looks := false }, kinds := [], alts := [], laidByText := true, laidKinds := [.data, .data, .data], laidTests := true, laidLooks := .later }
def FnExactChestTextUptoCardSaid : Prop := Claim7.holds Tryd.pinned (.plain (OpenSpec.upto fnExactChestTextSpec)) fnExactChestTextUptoCard

/-- THE SECOND FORM's CARD OF 'laws.FnExactDamageText'. -/
def fnExactDamageTextUptoCard : Claim7 := { stood := { row := fnExactDamageTextUptoRow, standIns := [], harness := (true, "37a9ba84e2e710b20049f3aea288affca25b979b9b0de29adfd51b67a2d5f9c7"), looks := false }, kinds := [], alts := [], laidByText := true, laidKinds := [.data, .data, .data], laidTests := true, laidLooks := .later }
def FnExactDamageTextUptoCardSaid : Prop := Claim7.holds Tryd.pinned (.plain (OpenSpec.upto fnExactDamageTextSpec)) fnExactDamageTextUptoCard

/-- THE SECOND FORM's CARD OF 'laws.FnExactEntryText'. -/
def fnExactEntryTextUptoCard : Claim7 := { stood := { row := fnExactEntryTextUptoRow, standIns := [], harness := (true, "37a9ba84e2e710b20049f3aea288affca25b979b9b0de29adfd51b67a2d5f9c7"), looks := false }, kinds := [], alts := [], laidByText := true, laidKinds := [.data, .data, .data], laidTests := true, laidLooks := .later }
def FnExactEntryTextUptoCardSaid : Prop := Claim7.holds Tryd.pinned (.plain (OpenSpec.upto fnExactEntryTextSpec)) fnExactEntryTextUptoCard

/-- THE SECOND FORM's CARD OF 'laws.FnExactClashesOf'. -/
def fnExactClashesOfUptoCard : Claim7 := { stood := { row := fnExactClashesOfUptoRow, standIns := [], harness := (true, "37a9ba84e2e710b20049f3aea288affca25b979b9b0de29adfd51b67a2d5f9c7"), looks := false }, kinds := [], alts := [], laidByText := true, laidKinds := [.data, .data, .data], laidTests := true, laidLooks := .later }
def FnExactClashesOfUptoCardSaid : Prop := Claim7.holds Tryd.pinned (.plain (OpenSpec.upto fnExactClashesOfSpec)) fnExactClashesOfUptoCard

/-- THE SECOND FORM's CARD OF 'laws.FnEntries'. -/
def fnEntriesUptoCard : Claim7 := { stood := { row := fnEntriesUptoRow, standIns := [], harness := (true, "37a9ba84e2e710b20049f3aea288affca25b979b9b0de29adfd51b67a2d5f9c7"), looks := false }, kinds := [], alts := [], laidByText := true, laidKinds := [.data, .data, .data], laidTests := true, laidLooks := .later }
def FnEntriesUptoCardSaid : Prop := Claim7.holds Tryd.pinned (.plain (OpenSpec.upto fnEntriesSpec)) fnEntriesUptoCard
end Rows
end Go.Proofs.YtkflcpfekaddpaaDoor
