/-
  DERIVED. GIVEN WITH THE SEED: THE CARDS: each row of YtoogjnlmicgfiaaGreatDoorRows.lean that lists a variable, with what it lists TIED to the program's text (the seventh form; the later family's looks); each row that meets fmt, with fmt's text TOLD by the authors' own Lean function (tested against real Go, not proved from fmt's source: count such statements apart). THE CARD IS WHAT COUNTS. Prove the row's statement (the work); the ties are given (YtoogjnlmicgfiaaGreatDoorTie.lean); close each card by the builder's one call (the guide's Derived/Test/ToyasCard.lean, 'card_holds'). Laid BY PROGRAM, IN A SANDBOX (cutbox-door.mjs). By AI agents, Wed Nov 11 2026. No macro, syntax, notation, axiom, sorry.
-/
import Derived.Test.YtoogjnlmicgfiaaGreatDoorRows
import GoSem.ClaimSeven
namespace Go.Proofs.YtoogjnlmicgfiaaGreatDoor
namespace Rows

/-- THE TIED CARD OF 'lorrylaw44.CommitFixes'. -/
def commitFixesCard : Claim7 := { stood := { row := commitFixesRow, standIns := [], harness := (true, "1568695165a8a6edce309fadc74aa68301fd133e49eb294439c6a3eb8397293f"), looks := false }, kinds := [], alts := [], laidByText := true, laidKinds := [.data, .data, .data], laidTests := true, laidLooks := .later }
def CommitFixesCardSaid : Prop := Claim7.holds Tryz.pinned (.plain (OpenSpec.ofChange commitFixesSpec)) commitFixesCard

/-- THE TIED CARD OF 'lorrylaw44.CommitPrefixes'. -/
def commitPrefixesCard : Claim7 := { stood := { row := commitPrefixesRow, standIns := [], harness := (true, "1568695165a8a6edce309fadc74aa68301fd133e49eb294439c6a3eb8397293f"), looks := false }, kinds := [], alts := [], laidByText := true, laidKinds := [.data, .data, .data], laidTests := true, laidLooks := .later }
def CommitPrefixesCardSaid : Prop := Claim7.holds Tryz.pinned (.plain (OpenSpec.ofChange commitPrefixesSpec)) commitPrefixesCard

/-- THE TIED CARD OF 'lorrylaw44.CommitKeeps'. -/
def commitKeepsCard : Claim7 := { stood := { row := commitKeepsRow, standIns := [], harness := (true, "1568695165a8a6edce309fadc74aa68301fd133e49eb294439c6a3eb8397293f"), looks := false }, kinds := [], alts := [], laidByText := true, laidKinds := [.data, .data, .data], laidTests := true, laidLooks := .later }
def CommitKeepsCardSaid : Prop := Claim7.holds Tryz.pinned (.plain (OpenSpec.ofChange commitKeepsSpec)) commitKeepsCard

/-- THE TIED CARD OF 'lorrylaw44.CommitGrows'. -/
def commitGrowsCard : Claim7 := { stood := { row := commitGrowsRow, standIns := [], harness := (true, "1568695165a8a6edce309fadc74aa68301fd133e49eb294439c6a3eb8397293f"), looks := false }, kinds := [], alts := [], laidByText := true, laidKinds := [.data, .data, .data], laidTests := true, laidLooks := .later }
def CommitGrowsCardSaid : Prop := Claim7.holds Tryz.pinned (.plain (OpenSpec.ofChange commitGrowsSpec)) commitGrowsCard

/-- THE TIED CARD OF 'lorrylaw44.CommitOwn'. -/
def commitOwnCard : Claim7 := { stood := { row := commitOwnRow, standIns := [], harness := (true, "1568695165a8a6edce309fadc74aa68301fd133e49eb294439c6a3eb8397293f"), looks := false }, kinds := [], alts := [], laidByText := true, laidKinds := [.data, .data, .data], laidTests := true, laidLooks := .later }
def CommitOwnCardSaid : Prop := Claim7.holds Tryz.pinned (.plain (OpenSpec.ofChange commitOwnSpec)) commitOwnCard

/-- THE SECOND FORM's CARD OF 'lorrylaw44.CommitFixes'. -/
def commitFixesUptoCard : Claim7 := { stood := { row := commitFixesUptoRow, standIns := [], harness := (true, "1568695165a8a6edce309fadc74aa68301fd133e49eb294439c6a3eb8397293f"), looks := false }, kinds := [], alts := [], laidByText := true, laidKinds := [.data, .data, .data], laidTests := true, laidLooks := .later }
def CommitFixesUptoCardSaid : Prop := Claim7.holds Tryz.pinned (.plain (OpenSpec.upto commitFixesSpec)) commitFixesUptoCard

/-- THE SECOND FORM's CARD OF 'lorrylaw44.CommitPrefixes'. -/
def commitPrefixesUptoCard : Claim7 := { stood := { row := commitPrefixesUptoRow, standIns := [], harness := (true, "1568695165a8a6edce309fadc74aa68301fd133e49eb294439c6a3eb8397293f"), looks := false }, kinds := [], alts := [], laidByText := true, laidKinds := [.data, .data, .data], laidTests := true, laidLooks := .later }
def CommitPrefixesUptoCardSaid : Prop := Claim7.holds Tryz.pinned (.plain (OpenSpec.upto commitPrefixesSpec)) commitPrefixesUptoCard

/-- THE SECOND FORM's CARD OF 'lorrylaw44.CommitKeeps'. -/
def commitKeepsUptoCard : Claim7 := { stood := { row := commitKeepsUptoRow, standIns := [], harness := (true, "1568695165a8a6edce309fadc74aa68301fd133e49eb294439c6a3eb8397293f"), looks := false }, kinds := [], alts := [], laidByText := true, laidKinds := [.data, .data, .data], laidTests := true, laidLooks := .later }
def CommitKeepsUptoCardSaid : Prop := Claim7.holds Tryz.pinned (.plain (OpenSpec.upto commitKeepsSpec)) commitKeepsUptoCard

/-- THE SECOND FORM's CARD OF 'lorrylaw44.CommitGrows'. -/
def commitGrowsUptoCard : Claim7 := { stood := { row := commitGrowsUptoRow, standIns := [], harness := (true, "1568695165a8a6edce309fadc74aa68301fd133e49eb294439c6a3eb8397293f"), looks := false }, kinds := [], alts := [], laidByText := true, laidKinds := [.data, .data, .data], laidTests := true, laidLooks := .later }
def CommitGrowsUptoCardSaid : Prop := Claim7.holds Tryz.pinned (.plain (OpenSpec.upto commitGrowsSpec)) commitGrowsUptoCard

/-- THE SECOND FORM's CARD OF 'lorrylaw44.CommitOwn'. -/
def commitOwnUptoCard : Claim7 := { stood := { row := commitOwnUptoRow, standIns := [], harness := (true, "1568695165a8a6edce309fadc74aa68301fd133e49eb294439c6a3eb8397293f"), looks := false }, kinds := [], alts := [], laidByText := true, laidKinds := [.data, .data, .data], laidTests := true, laidLooks := .later }
def CommitOwnUptoCardSaid : Prop := Claim7.holds Tryz.pinned (.plain (OpenSpec.upto commitOwnSpec)) commitOwnUptoCard
end Rows
end Go.Proofs.YtoogjnlmicgfiaaGreatDoor
