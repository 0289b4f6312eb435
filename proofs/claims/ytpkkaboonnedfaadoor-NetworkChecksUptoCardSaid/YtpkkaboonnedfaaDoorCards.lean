/-
  DERIVED. GIVEN WITH THE SEED: THE CARDS: each row of YtpkkaboonnedfaaDoorRows.lean that lists a variable, with what it lists TIED to the program's text (the seventh form; the later family's looks); each row that meets fmt, with fmt's text TOLD by the authors' own Lean function (tested against real Go, not proved from fmt's source: count such statements apart). THE CARD IS WHAT COUNTS. Prove the row's statement (the work); the ties are given (YtpkkaboonnedfaaDoorTie.lean); close each card by the builder's one call (the guide's Derived/Test/ToyasCard.lean, 'card_holds'). Laid BY PROGRAM, IN A SANDBOX (cutbox-door.mjs). By AI agents, Wed Nov 11 2026. No macro, syntax, notation, axiom, sorry.
-/
import Derived.Test.YtpkkaboonnedfaaDoorRows
import GoSem.ClaimSeven
namespace Go.Proofs.YtpkkaboonnedfaaDoor
namespace Rows

/-- THE TIED CARD OF 'lorrylaw09.NetworkChecks'. -/
def networkChecksCard : Claim7 := { stood := { row := networkChecksRow, standIns := [], harness := (true, "6bd0b87e4b66ed4fd5ed7b3aa2b8af420ed5358f419dba35253577480b571010"), looks := false }, kinds := [], alts := [], laidByText := true, laidKinds := [.data, .data, .data], laidTests := true, laidLooks := .later }
def NetworkChecksCardSaid : Prop := Claim7.holds Tryd.pinned (.plain (OpenSpec.ofChange networkChecksSpec)) networkChecksCard

/-- THE TIED CARD OF 'lorrylaw09.NetworkDelays'. -/
def networkDelaysCard : Claim7 := { stood := { row := networkDelaysRow, standIns := [], harness := (true, "6bd0b87e4b66ed4fd5ed7b3aa2b8af420ed5358f419dba35253577480b571010"), looks := false }, kinds := [], alts := [], laidByText := true, laidKinds := [.data, .data, .data], laidTests := true, laidLooks := .later }
def NetworkDelaysCardSaid : Prop := Claim7.holds Tryd.pinned (.plain (OpenSpec.ofChange networkDelaysSpec)) networkDelaysCard

/-- THE SECOND FORM's CARD OF 'lorrylaw09.NetworkChecks'. -/
def networkChecksUptoCard : Claim7 := { stood := { row := networkChecksUptoRow, standIns := [], harness := (true, "6bd0b87e4b66ed4fd5ed7b3aa2b8af420ed5358f419dba35253577480b571010"), looks := false }, kinds := [], alts := [], laidByText := true, laidKinds := [.data, .data, .data], laidTests := true, laidLooks := .later }
def NetworkChecksUptoCardSaid : Prop := Claim7.holds Tryd.pinned (.plain (OpenSpec.upto networkChecksSpec)) networkChecksUptoCard

/-- THE SECOND FORM's CARD OF 'lorrylaw09.NetworkDelays'. -/
def networkDelaysUptoCard : Claim7 := { stood := { row := networkDelaysUptoRow, standIns := [], harness := (true, "6bd0b87e4b66ed4fd5ed7b3aa2b8af420ed5358f419dba35253577480b571010"), looks := false }, kinds := [], alts := [], laidByText := true, laidKinds := [.data, .data, .data], laidTests := true, laidLooks := .later }
def NetworkDelaysUptoCardSaid : Prop := Claim7.holds Tryd.pinned (.plain (OpenSpec.upto networkDelaysSpec)) networkDelaysUptoCard
end Rows
end Go.Proofs.YtpkkaboonnedfaaDoor
