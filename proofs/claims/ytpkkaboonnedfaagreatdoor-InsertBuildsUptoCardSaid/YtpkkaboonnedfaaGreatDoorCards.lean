/-
  DERIVED. GIVEN WITH THE SEED: THE CARDS: each row of YtpkkaboonnedfaaGreatDoorRows.lean that lists a variable, with what it lists TIED to the program's text (the seventh form; the later family's looks); each row that meets fmt, with fmt's text TOLD by the authors' own Lean function (tested against real Go, not proved from fmt's source: count such statements apart). THE CARD IS WHAT COUNTS. Prove the row's statement (the work); the ties are given (YtpkkaboonnedfaaGreatDoorTie.lean); close each card by the builder's one call (the guide's Derived/Test/ToyasCard.lean, 'card_holds'). Laid BY PROGRAM, IN A SANDBOX (cutbox-door.mjs). By AI agents, Wed Nov 11 2026. No macro, syntax, notation, axiom, sorry.
-/
import Derived.Test.YtpkkaboonnedfaaGreatDoorRows
import GoSem.ClaimSeven
namespace Go.Proofs.YtpkkaboonnedfaaGreatDoor
namespace Rows

/-- THE TIED CARD OF 'lorrylaw41.InsertFinds'. -/
def insertFindsCard : Claim7 := { stood := { row := insertFindsRow, standIns := [], harness := (true, "55b9b819678d6977c95af7d1f0aaea2deadbc4d867e036ee1c9812b01e9767b5"), looks := false }, kinds := [], alts := [], laidByText := true, laidKinds := [.data, .data, .data], laidTests := true, laidLooks := .later }
def InsertFindsCardSaid : Prop := Claim7.holds Tryz.pinned (.plain (OpenSpec.ofChange insertFindsSpec)) insertFindsCard

/-- THE TIED CARD OF 'lorrylaw41.InsertBuilds'. -/
def insertBuildsCard : Claim7 := { stood := { row := insertBuildsRow, standIns := [], harness := (true, "55b9b819678d6977c95af7d1f0aaea2deadbc4d867e036ee1c9812b01e9767b5"), looks := false }, kinds := [], alts := [], laidByText := true, laidKinds := [.data, .data, .data], laidTests := true, laidLooks := .later }
def InsertBuildsCardSaid : Prop := Claim7.holds Tryz.pinned (.plain (OpenSpec.ofChange insertBuildsSpec)) insertBuildsCard

/-- THE TIED CARD OF 'lorrylaw41.InsertLeast'. -/
def insertLeastCard : Claim7 := { stood := { row := insertLeastRow, standIns := [], harness := (true, "55b9b819678d6977c95af7d1f0aaea2deadbc4d867e036ee1c9812b01e9767b5"), looks := false }, kinds := [], alts := [], laidByText := true, laidKinds := [.data, .data, .data], laidTests := true, laidLooks := .later }
def InsertLeastCardSaid : Prop := Claim7.holds Tryz.pinned (.plain (OpenSpec.ofChange insertLeastSpec)) insertLeastCard

/-- THE TIED CARD OF 'lorrylaw41.InsertPlans'. -/
def insertPlansCard : Claim7 := { stood := { row := insertPlansRow, standIns := [], harness := (true, "55b9b819678d6977c95af7d1f0aaea2deadbc4d867e036ee1c9812b01e9767b5"), looks := false }, kinds := [], alts := [], laidByText := true, laidKinds := [.data, .data, .data], laidTests := true, laidLooks := .later }
def InsertPlansCardSaid : Prop := Claim7.holds Tryz.pinned (.plain (OpenSpec.ofChange insertPlansSpec)) insertPlansCard

/-- THE TIED CARD OF 'lorrylaw41.InsertValid'. -/
def insertValidCard : Claim7 := { stood := { row := insertValidRow, standIns := [], harness := (true, "55b9b819678d6977c95af7d1f0aaea2deadbc4d867e036ee1c9812b01e9767b5"), looks := false }, kinds := [], alts := [], laidByText := true, laidKinds := [.data, .data, .data], laidTests := true, laidLooks := .later }
def InsertValidCardSaid : Prop := Claim7.holds Tryz.pinned (.plain (OpenSpec.ofChange insertValidSpec)) insertValidCard

/-- THE SECOND FORM's CARD OF 'lorrylaw41.InsertFinds'. -/
def insertFindsUptoCard : Claim7 := { stood := { row := insertFindsUptoRow, standIns := [], harness := (true, "55b9b819678d6977c95af7d1f0aaea2deadbc4d867e036ee1c9812b01e9767b5"), looks := false }, kinds := [], alts := [], laidByText := true, laidKinds := [.data, .data, .data], laidTests := true, laidLooks := .later }
def InsertFindsUptoCardSaid : Prop := Claim7.holds Tryz.pinned (.plain (OpenSpec.upto insertFindsSpec)) insertFindsUptoCard

/-- THE SECOND FORM's CARD OF 'lorrylaw41.InsertBuilds'. -/
def insertBuildsUptoCard : Claim7 := { stood := { row := insertBuildsUptoRow, standIns := [], harness := (true, "55b9b819678d6977c95af7d1f0aaea2deadbc4d867e036ee1c9812b01e9767b5"), looks := false }, kinds := [], alts := [], laidByText := true, laidKinds := [.data, .data, .data], laidTests := true, laidLooks := .later }
def InsertBuildsUptoCardSaid : Prop := Claim7.holds Tryz.pinned (.plain (OpenSpec.upto insertBuildsSpec)) insertBuildsUptoCard

/-- THE SECOND FORM's CARD OF 'lorrylaw41.InsertLeast'. -/
def insertLeastUptoCard : Claim7 := { stood := { row := insertLeastUptoRow, standIns := [], harness := (true, "55b9b819678d6977c95af7d1f0aaea2deadbc4d867e036ee1c9812b01e9767b5"), looks := false }, kinds := [], alts := [], laidByText := true, laidKinds := [.data, .data, .data], laidTests := true, laidLooks := .later }
def InsertLeastUptoCardSaid : Prop := Claim7.holds Tryz.pinned (.plain (OpenSpec.upto insertLeastSpec)) insertLeastUptoCard

/-- THE SECOND FORM's CARD OF 'lorrylaw41.InsertPlans'. -/
def insertPlansUptoCard : Claim7 := { stood := { row := insertPlansUptoRow, standIns := [], harness := (true, "55b9b819678d6977c95af7d1f0aaea2deadbc4d867e036ee1c9812b01e9767b5"), looks := false }, kinds := [], alts := [], laidByText := true, laidKinds := [.data, .data, .data], laidTests := true, laidLooks := .later }
def InsertPlansUptoCardSaid : Prop := Claim7.holds Tryz.pinned (.plain (OpenSpec.upto insertPlansSpec)) insertPlansUptoCard

/-- THE SECOND FORM's CARD OF 'lorrylaw41.InsertValid'. -/
def insertValidUptoCard : Claim7 := { stood := { row := insertValidUptoRow, standIns := [], harness := (true, "55b9b819678d6977c95af7d1f0aaea2deadbc4d867e036ee1c9812b01e9767b5"), looks := false }, kinds := [], alts := [], laidByText := true, laidKinds := [.data, .data, .data], laidTests := true, laidLooks := .later }
def InsertValidUptoCardSaid : Prop := Claim7.holds Tryz.pinned (.plain (OpenSpec.upto insertValidSpec)) insertValidUptoCard
end Rows
end Go.Proofs.YtpkkaboonnedfaaGreatDoor
