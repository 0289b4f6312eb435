/-
  DERIVED. GIVEN WITH THE SEED: THE CARDS: each row of YtfjiafgldchinaaGreatDoorRows.lean that lists a variable, with what it lists TIED to the program's text (the seventh form; the later family's looks); each row that meets fmt, with fmt's text TOLD by the authors' own Lean function (tested against real Go, not proved from fmt's source: count such statements apart). THE CARD IS WHAT COUNTS. Prove the row's statement (the work); the ties are given (YtfjiafgldchinaaGreatDoorTie.lean); close each card by the builder's one call (the guide's Derived/Test/ToyasCard.lean, 'card_holds'). Laid BY PROGRAM, IN A SANDBOX (cutbox-door.mjs). By AI agents, Wed Nov 11 2026. No macro, syntax, notation, axiom, sorry.
-/
import Derived.Test.YtfjiafgldchinaaGreatDoorRows
import GoSem.ClaimSeven
namespace Go.Proofs.YtfjiafgldchinaaGreatDoor
namespace Rows

/-- THE TIED CARD OF 'lorrylaw31.LabelWalks'. -/
def labelWalksCard : Claim7 := { stood := { row := labelWalksRow, standIns := [], harness := (true, "39bd1de854a5a99483576dfbb189efed173bff4e8e89ed8c925ecd81d77c1535"), looks := false }, kinds := [], alts := [], laidByText := true, laidKinds := [.data, .data, .data], laidTests := true, laidLooks := .later }
def LabelWalksCardSaid : Prop := Claim7.holds Tryz.pinned (.plain (OpenSpec.ofChange labelWalksSpec)) labelWalksCard

/-- THE TIED CARD OF 'lorrylaw31.LabelDrives'. -/
def labelDrivesCard : Claim7 := { stood := { row := labelDrivesRow, standIns := [], harness := (true, "39bd1de854a5a99483576dfbb189efed173bff4e8e89ed8c925ecd81d77c1535"), looks := false }, kinds := [], alts := [], laidByText := true, laidKinds := [.data, .data, .data], laidTests := true, laidLooks := .later }
def LabelDrivesCardSaid : Prop := Claim7.holds Tryz.pinned (.plain (OpenSpec.ofChange labelDrivesSpec)) labelDrivesCard

/-- THE TIED CARD OF 'lorrylaw31.LabelEnds'. -/
def labelEndsCard : Claim7 := { stood := { row := labelEndsRow, standIns := [], harness := (true, "39bd1de854a5a99483576dfbb189efed173bff4e8e89ed8c925ecd81d77c1535"), looks := false }, kinds := [], alts := [], laidByText := true, laidKinds := [.data, .data, .data], laidTests := true, laidLooks := .later }
def LabelEndsCardSaid : Prop := Claim7.holds Tryz.pinned (.plain (OpenSpec.ofChange labelEndsSpec)) labelEndsCard

/-- THE TIED CARD OF 'lorrylaw31.LabelBest'. -/
def labelBestCard : Claim7 := { stood := { row := labelBestRow, standIns := [], harness := (true, "39bd1de854a5a99483576dfbb189efed173bff4e8e89ed8c925ecd81d77c1535"), looks := false }, kinds := [], alts := [], laidByText := true, laidKinds := [.data, .data, .data], laidTests := true, laidLooks := .later }
def LabelBestCardSaid : Prop := Claim7.holds Tryz.pinned (.plain (OpenSpec.ofChange labelBestSpec)) labelBestCard

/-- THE SECOND FORM's CARD OF 'lorrylaw31.LabelWalks'. -/
def labelWalksUptoCard : Claim7 := { stood := { row := labelWalksUptoRow, standIns := [], harness := (true, "39bd1de854a5a99483576dfbb189efed173bff4e8e89ed8c925ecd81d77c1535"), looks := false }, kinds := [], alts := [], laidByText := true, laidKinds := [.data, .data, .data], laidTests := true, laidLooks := .later }
def LabelWalksUptoCardSaid : Prop := Claim7.holds Tryz.pinned (.plain (OpenSpec.upto labelWalksSpec)) labelWalksUptoCard

/-- THE SECOND FORM's CARD OF 'lorrylaw31.LabelDrives'. -/
def labelDrivesUptoCard : Claim7 := { stood := { row := labelDrivesUptoRow, standIns := [], harness := (true, "39bd1de854a5a99483576dfbb189efed173bff4e8e89ed8c925ecd81d77c1535"), looks := false }, kinds := [], alts := [], laidByText := true, laidKinds := [.data, .data, .data], laidTests := true, laidLooks := .later }
def LabelDrivesUptoCardSaid : Prop := Claim7.holds Tryz.pinned (.plain (OpenSpec.upto labelDrivesSpec)) labelDrivesUptoCard

/-- THE SECOND FORM's CARD OF 'lorrylaw31.LabelEnds'. -/
def labelEndsUptoCard : Claim7 := { stood := { row := labelEndsUptoRow, standIns := [], harness := (true, "39bd1de854a5a99483576dfbb189efed173bff4e8e89ed8c925ecd81d77c1535"), looks := false }, kinds := [], alts := [], laidByText := true, laidKinds := [.data, .data, .data], laidTests := true, laidLooks := .later }
def LabelEndsUptoCardSaid : Prop := Claim7.holds Tryz.pinned (.plain (OpenSpec.upto labelEndsSpec)) labelEndsUptoCard

/-- THE SECOND FORM's CARD OF 'lorrylaw31.LabelBest'. -/
def labelBestUptoCard : Claim7 := { stood := { row := labelBestUptoRow, standIns := [], harness := (true, "39bd1de854a5a99483576dfbb189efed173bff4e8e89ed8c925ecd81d77c1535"), looks := false }, kinds := [], alts := [], laidByText := true, laidKinds := [.data, .data, .data], laidTests := true, laidLooks := .later }
def LabelBestUptoCardSaid : Prop := Claim7.holds Tryz.pinned (.plain (OpenSpec.upto labelBestSpec)) labelBestUptoCard
end Rows
end Go.Proofs.YtfjiafgldchinaaGreatDoor
