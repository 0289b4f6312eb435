/-
  DERIVED. GIVEN WITH THE SEED: THE CARDS: each row of YtkcilfpbgjjjbaaGreatDoorRows.lean that lists a variable, with what it lists TIED to the program's text (the seventh form; the later family's looks); each row that meets fmt, with fmt's text TOLD by the authors' own Lean function (tested against real Go, not proved from fmt's source: count such statements apart). THE CARD IS WHAT COUNTS. Prove the row's statement (the work); the ties are given (YtkcilfpbgjjjbaaGreatDoorTie.lean); close each card by the builder's one call (the guide's Derived/Test/ToyasCard.lean, 'card_holds'). Laid BY PROGRAM, IN A SANDBOX (cutbox-door.mjs). By AI agents, Wed Nov 11 2026. No macro, syntax, notation, axiom, sorry.
-/
import Derived.Test.YtkcilfpbgjjjbaaGreatDoorRows
import GoSem.ClaimSeven
namespace Go.Proofs.YtkcilfpbgjjjbaaGreatDoor
namespace Rows

/-- THE TIED CARD OF 'lorrytop.TopRelaxed'. -/
def topRelaxedCard : Claim7 := { stood := { row := topRelaxedRow, standIns := [], harness := (true, "5a49e43245392481fff97bc49e4e44c59a3d01cb64c9637ec11e7912f111dcb2"), looks := false }, kinds := [], alts := [], laidByText := true, laidKinds := [.data, .data, .data], laidTests := true, laidLooks := .later }
def TopRelaxedCardSaid : Prop := Claim7.holds Tryz.pinned (.plain (OpenSpec.ofChange topRelaxedSpec)) topRelaxedCard

/-- THE TIED CARD OF 'lorrytop.TopSplit'. -/
def topSplitCard : Claim7 := { stood := { row := topSplitRow, standIns := [], harness := (true, "5a49e43245392481fff97bc49e4e44c59a3d01cb64c9637ec11e7912f111dcb2"), looks := false }, kinds := [], alts := [], laidByText := true, laidKinds := [.data, .data, .data], laidTests := true, laidLooks := .later }
def TopSplitCardSaid : Prop := Claim7.holds Tryz.pinned (.plain (OpenSpec.ofChange topSplitSpec)) topSplitCard

/-- THE SECOND FORM's CARD OF 'lorrytop.TopRelaxed'. -/
def topRelaxedUptoCard : Claim7 := { stood := { row := topRelaxedUptoRow, standIns := [], harness := (true, "5a49e43245392481fff97bc49e4e44c59a3d01cb64c9637ec11e7912f111dcb2"), looks := false }, kinds := [], alts := [], laidByText := true, laidKinds := [.data, .data, .data], laidTests := true, laidLooks := .later }
def TopRelaxedUptoCardSaid : Prop := Claim7.holds Tryz.pinned (.plain (OpenSpec.upto topRelaxedSpec)) topRelaxedUptoCard

/-- THE SECOND FORM's CARD OF 'lorrytop.TopSplit'. -/
def topSplitUptoCard : Claim7 := { stood := { row := topSplitUptoRow, standIns := [], harness := (true, "5a49e43245392481fff97bc49e4e44c59a3d01cb64c9637ec11e7912f111dcb2"), looks := false }, kinds := [], alts := [], laidByText := true, laidKinds := [.data, .data, .data], laidTests := true, laidLooks := .later }
def TopSplitUptoCardSaid : Prop := Claim7.holds Tryz.pinned (.plain (OpenSpec.upto topSplitSpec)) topSplitUptoCard
end Rows
end Go.Proofs.YtkcilfpbgjjjbaaGreatDoor
