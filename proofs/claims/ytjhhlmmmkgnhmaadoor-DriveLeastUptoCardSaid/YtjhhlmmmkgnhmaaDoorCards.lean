/-
  DERIVED. GIVEN WITH THE SEED: THE CARDS: each row of YtjhhlmmmkgnhmaaDoorRows.lean that lists a variable, with what it lists TIED to the program's text (the seventh form; the later family's looks); each row that meets fmt, with fmt's text TOLD by the authors' own Lean function (tested against real Go, not proved from fmt's source: count such statements apart). THE CARD IS WHAT COUNTS. Prove the row's statement (the work); the ties are given (YtjhhlmmmkgnhmaaDoorTie.lean); close each card by the builder's one call (the guide's Derived/Test/ToyasCard.lean, 'card_holds'). Laid BY PROGRAM, IN A SANDBOX (cutbox-door.mjs). By AI agents, Wed Nov 11 2026. No macro, syntax, notation, axiom, sorry.
-/
import Derived.Test.YtjhhlmmmkgnhmaaDoorRows
import GoSem.ClaimSeven
namespace Go.Proofs.YtjhhlmmmkgnhmaaDoor
namespace Rows

/-- THE TIED CARD OF 'lorrylaw09.NetworkGoes'. -/
def networkGoesCard : Claim7 := { stood := { row := networkGoesRow, standIns := [], harness := (true, "cddf49d7570c63f0c79ac0368bbf71de7d84dcfdb22b24987a0b77690add3265"), looks := false }, kinds := [], alts := [], laidByText := true, laidKinds := [.data, .data, .data], laidTests := true, laidLooks := .later }
def NetworkGoesCardSaid : Prop := Claim7.holds Tryd.pinned (.plain (OpenSpec.ofChange networkGoesSpec)) networkGoesCard

/-- THE TIED CARD OF 'lorrylaw09.NetworkEarliest'. -/
def networkEarliestCard : Claim7 := { stood := { row := networkEarliestRow, standIns := [], harness := (true, "cddf49d7570c63f0c79ac0368bbf71de7d84dcfdb22b24987a0b77690add3265"), looks := false }, kinds := [], alts := [], laidByText := true, laidKinds := [.data, .data, .data], laidTests := true, laidLooks := .later }
def NetworkEarliestCardSaid : Prop := Claim7.holds Tryd.pinned (.plain (OpenSpec.ofChange networkEarliestSpec)) networkEarliestCard

/-- THE TIED CARD OF 'lorrylaw09.NetworkSlower'. -/
def networkSlowerCard : Claim7 := { stood := { row := networkSlowerRow, standIns := [], harness := (true, "cddf49d7570c63f0c79ac0368bbf71de7d84dcfdb22b24987a0b77690add3265"), looks := false }, kinds := [], alts := [], laidByText := true, laidKinds := [.data, .data, .data], laidTests := true, laidLooks := .later }
def NetworkSlowerCardSaid : Prop := Claim7.holds Tryd.pinned (.plain (OpenSpec.ofChange networkSlowerSpec)) networkSlowerCard

/-- THE TIED CARD OF 'lorrylaw09.NetworkChecks'. -/
def networkChecksCard : Claim7 := { stood := { row := networkChecksRow, standIns := [], harness := (true, "cddf49d7570c63f0c79ac0368bbf71de7d84dcfdb22b24987a0b77690add3265"), looks := false }, kinds := [], alts := [], laidByText := true, laidKinds := [.data, .data, .data], laidTests := true, laidLooks := .later }
def NetworkChecksCardSaid : Prop := Claim7.holds Tryd.pinned (.plain (OpenSpec.ofChange networkChecksSpec)) networkChecksCard

/-- THE TIED CARD OF 'lorrylaw09.NetworkDelays'. -/
def networkDelaysCard : Claim7 := { stood := { row := networkDelaysRow, standIns := [], harness := (true, "cddf49d7570c63f0c79ac0368bbf71de7d84dcfdb22b24987a0b77690add3265"), looks := false }, kinds := [], alts := [], laidByText := true, laidKinds := [.data, .data, .data], laidTests := true, laidLooks := .later }
def NetworkDelaysCardSaid : Prop := Claim7.holds Tryd.pinned (.plain (OpenSpec.ofChange networkDelaysSpec)) networkDelaysCard

/-- THE TIED CARD OF 'lorrylaw18.DriveRuns'. -/
def driveRunsCard : Claim7 := { stood := { row := driveRunsRow, standIns := [], harness := (true, "cddf49d7570c63f0c79ac0368bbf71de7d84dcfdb22b24987a0b77690add3265"), looks := false }, kinds := [], alts := [], laidByText := true, laidKinds := [.data, .data, .data], laidTests := true, laidLooks := .later }
def DriveRunsCardSaid : Prop := Claim7.holds Tryd.pinned (.plain (OpenSpec.ofChange driveRunsSpec)) driveRunsCard

/-- THE TIED CARD OF 'lorrylaw18.DriveBest'. -/
def driveBestCard : Claim7 := { stood := { row := driveBestRow, standIns := [], harness := (true, "cddf49d7570c63f0c79ac0368bbf71de7d84dcfdb22b24987a0b77690add3265"), looks := false }, kinds := [], alts := [], laidByText := true, laidKinds := [.data, .data, .data], laidTests := true, laidLooks := .later }
def DriveBestCardSaid : Prop := Claim7.holds Tryd.pinned (.plain (OpenSpec.ofChange driveBestSpec)) driveBestCard

/-- THE TIED CARD OF 'lorrylaw18.DriveChecks'. -/
def driveChecksCard : Claim7 := { stood := { row := driveChecksRow, standIns := [], harness := (true, "cddf49d7570c63f0c79ac0368bbf71de7d84dcfdb22b24987a0b77690add3265"), looks := false }, kinds := [], alts := [], laidByText := true, laidKinds := [.data, .data, .data], laidTests := true, laidLooks := .later }
def DriveChecksCardSaid : Prop := Claim7.holds Tryd.pinned (.plain (OpenSpec.ofChange driveChecksSpec)) driveChecksCard

/-- THE TIED CARD OF 'lorrylaw18.DriveLeast'. -/
def driveLeastCard : Claim7 := { stood := { row := driveLeastRow, standIns := [], harness := (true, "cddf49d7570c63f0c79ac0368bbf71de7d84dcfdb22b24987a0b77690add3265"), looks := false }, kinds := [], alts := [], laidByText := true, laidKinds := [.data, .data, .data], laidTests := true, laidLooks := .later }
def DriveLeastCardSaid : Prop := Claim7.holds Tryd.pinned (.plain (OpenSpec.ofChange driveLeastSpec)) driveLeastCard

/-- THE TIED CARD OF 'lorrylaw18.DriveLater'. -/
def driveLaterCard : Claim7 := { stood := { row := driveLaterRow, standIns := [], harness := (true, "cddf49d7570c63f0c79ac0368bbf71de7d84dcfdb22b24987a0b77690add3265"), looks := false }, kinds := [], alts := [], laidByText := true, laidKinds := [.data, .data, .data], laidTests := true, laidLooks := .later }
def DriveLaterCardSaid : Prop := Claim7.holds Tryd.pinned (.plain (OpenSpec.ofChange driveLaterSpec)) driveLaterCard

/-- THE TIED CARD OF 'lorrylaw18.DriveTimes'. -/
def driveTimesCard : Claim7 := { stood := { row := driveTimesRow, standIns := [], harness := (true, "cddf49d7570c63f0c79ac0368bbf71de7d84dcfdb22b24987a0b77690add3265"), looks := false }, kinds := [], alts := [], laidByText := true, laidKinds := [.data, .data, .data], laidTests := true, laidLooks := .later }
def DriveTimesCardSaid : Prop := Claim7.holds Tryd.pinned (.plain (OpenSpec.ofChange driveTimesSpec)) driveTimesCard

/-- THE SECOND FORM's CARD OF 'lorrylaw09.NetworkGoes'. -/
def networkGoesUptoCard : Claim7 := { stood := { row := networkGoesUptoRow, standIns := [], harness := (true, "cddf49d7570c63f0c79ac0368bbf71de7d84dcfdb22b24987a0b77690add3265"), looks := false }, kinds := [], alts := [], laidByText := true, laidKinds := [.data, .data, .data], laidTests := true, laidLooks := .later }
def NetworkGoesUptoCardSaid : Prop := Claim7.holds Tryd.pinned (.plain (OpenSpec.upto networkGoesSpec)) networkGoesUptoCard

/-- THE SECOND FORM's CARD OF 'lorrylaw09.NetworkEarliest'. -/
def networkEarliestUptoCard : Claim7 := { stood := { row := networkEarliestUptoRow, standIns := [], harness := (true, "cddf49d7570c63f0c79ac0368bbf71de7d84dcfdb22b24987a0b77690add3265"), looks := false }, kinds := [], alts := [], laidByText := true, laidKinds := [.data, .data, .data], laidTests := true, laidLooks := .later }
def NetworkEarliestUptoCardSaid : Prop := Claim7.holds Tryd.pinned (.plain (OpenSpec.upto networkEarliestSpec)) networkEarliestUptoCard

/-- THE SECOND FORM's CARD OF 'lorrylaw09.NetworkSlower'. -/
def networkSlowerUptoCard : Claim7 := { stood := { row := networkSlowerUptoRow, standIns := [], harness := (true, "cddf49d7570c63f0c79ac0368bbf71de7d84dcfdb22b24987a0b77690add3265"), looks := false }, kinds := [], alts := [], laidByText := true, laidKinds := [.data, .data, .data], laidTests := true, laidLooks := .later }
def NetworkSlowerUptoCardSaid : Prop := Claim7.holds Tryd.pinned (.plain (OpenSpec.upto networkSlowerSpec)) networkSlowerUptoCard

/-- THE SECOND FORM's CARD OF 'lorrylaw09.NetworkChecks'. -/
def networkChecksUptoCard : Claim7 := { stood := { row := networkChecksUptoRow, standIns := [], harness := (true, "cddf49d7570c63f0c79ac0368bbf71de7d84dcfdb22b24987a0b77690add3265"), looks := false }, kinds := [], alts := [], laidByText := true, laidKinds := [.data, .data, .data], laidTests := true, laidLooks := .later }
def NetworkChecksUptoCardSaid : Prop := Claim7.holds Tryd.pinned (.plain (OpenSpec.upto networkChecksSpec)) networkChecksUptoCard

/-- THE SECOND FORM's CARD OF 'lorrylaw09.NetworkDelays'. -/
def networkDelaysUptoCard : Claim7 := { stood := { row := networkDelaysUptoRow, standIns := [], harness := (true, "cddf49d7570c63f0c79ac0368bbf71de7d84dcfdb22b24987a0b77690add3265"), looks := false }, kinds := [], alts := [], laidByText := true, laidKinds := [.data, .data, .data], laidTests := true, laidLooks := .later }
def NetworkDelaysUptoCardSaid : Prop := Claim7.holds Tryd.pinned (.plain (OpenSpec.upto networkDelaysSpec)) networkDelaysUptoCard

/-- THE SECOND FORM's CARD OF 'lorrylaw18.DriveRuns'. -/
def driveRunsUptoCard : Claim7 := { stood := { row := driveRunsUptoRow, standIns := [], harness := (true, "cddf49d7570c63f0c79ac0368bbf71de7d84dcfdb22b24987a0b77690add3265"), looks := false }, kinds := [], alts := [], laidByText := true, laidKinds := [.data, .data, .data], laidTests := true, laidLooks := .later }
def DriveRunsUptoCardSaid : Prop := Claim7.holds Tryd.pinned (.plain (OpenSpec.upto driveRunsSpec)) driveRunsUptoCard

/-- THE SECOND FORM's CARD OF 'lorrylaw18.DriveBest'. -/
def driveBestUptoCard : Claim7 := { stood := { row := driveBestUptoRow, standIns := [], harness := (true, "cddf49d7570c63f0c79ac0368bbf71de7d84dcfdb22b24987a0b77690add3265"), looks := false }, kinds := [], alts := [], laidByText := true, laidKinds := [.data, .data, .data], laidTests := true, laidLooks := .later }
def DriveBestUptoCardSaid : Prop := Claim7.holds Tryd.pinned (.plain (OpenSpec.upto driveBestSpec)) driveBestUptoCard

/-- THE SECOND FORM's CARD OF 'lorrylaw18.DriveChecks'. -/
def driveChecksUptoCard : Claim7 := { stood := { row := driveChecksUptoRow, standIns := [], harness := (true, "cddf49d7570c63f0c79ac0368bbf71de7d84dcfdb22b24987a0b77690add3265"), looks := false }, kinds := [], alts := [], laidByText := true, laidKinds := [.data, .data, .data], laidTests := true, laidLooks := .later }
def DriveChecksUptoCardSaid : Prop := Claim7.holds Tryd.pinned (.plain (OpenSpec.upto driveChecksSpec)) driveChecksUptoCard

/-- THE SECOND FORM's CARD OF 'lorrylaw18.DriveLeast'. -/
def driveLeastUptoCard : Claim7 := { stood := { row := driveLeastUptoRow, standIns := [], harness := (true, "cddf49d7570c63f0c79ac0368bbf71de7d84dcfdb22b24987a0b77690add3265"), looks := false }, kinds := [], alts := [], laidByText := true, laidKinds := [.data, .data, .data], laidTests := true, laidLooks := .later }
def DriveLeastUptoCardSaid : Prop := Claim7.holds Tryd.pinned (.plain (OpenSpec.upto driveLeastSpec)) driveLeastUptoCard

/-- THE SECOND FORM's CARD OF 'lorrylaw18.DriveLater'. -/
def driveLaterUptoCard : Claim7 := { stood := { row := driveLaterUptoRow, standIns := [], harness := (true, "cddf49d7570c63f0c79ac0368bbf71de7d84dcfdb22b24987a0b77690add3265"), looks := false }, kinds := [], alts := [], laidByText := true, laidKinds := [.data, .data, .data], laidTests := true, laidLooks := .later }
def DriveLaterUptoCardSaid : Prop := Claim7.holds Tryd.pinned (.plain (OpenSpec.upto driveLaterSpec)) driveLaterUptoCard

/-- THE SECOND FORM's CARD OF 'lorrylaw18.DriveTimes'. -/
def driveTimesUptoCard : Claim7 := { stood := { row := driveTimesUptoRow, standIns := [], harness := (true, "cddf49d7570c63f0c79ac0368bbf71de7d84dcfdb22b24987a0b77690add3265"), looks := false }, kinds := [], alts := [], laidByText := true, laidKinds := [.data, .data, .data], laidTests := true, laidLooks := .later }
def DriveTimesUptoCardSaid : Prop := Claim7.holds Tryd.pinned (.plain (OpenSpec.upto driveTimesSpec)) driveTimesUptoCard
end Rows
end Go.Proofs.YtjhhlmmmkgnhmaaDoor
