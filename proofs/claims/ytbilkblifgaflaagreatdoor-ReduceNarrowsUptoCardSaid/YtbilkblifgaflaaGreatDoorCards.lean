/-
  DERIVED. GIVEN WITH THE SEED: THE CARDS: each row of YtbilkblifgaflaaGreatDoorRows.lean that lists a variable, with what it lists TIED to the program's text (the seventh form; the later family's looks); each row that meets fmt, with fmt's text TOLD by the authors' own Lean function (tested against real Go, not proved from fmt's source: count such statements apart). THE CARD IS WHAT COUNTS. Prove the row's statement (the work); the ties are given (YtbilkblifgaflaaGreatDoorTie.lean); close each card by the builder's one call (the guide's Derived/Test/ToyasCard.lean, 'card_holds'). Laid BY PROGRAM, IN A SANDBOX (cutbox-door.mjs). By AI agents, Wed Nov 11 2026. No macro, syntax, notation, axiom, sorry.
-/
import Derived.Test.YtbilkblifgaflaaGreatDoorRows
import GoSem.ClaimSeven
namespace Go.Proofs.YtbilkblifgaflaaGreatDoor
namespace Rows

/-- THE TIED CARD OF 'lorrylaw56.ReduceTight'. -/
def reduceTightCard : Claim7 := { stood := { row := reduceTightRow, standIns := [], harness := (true, "1b03005a150d4cd32794a249fe3b46afa56d59d80b6b9ebf154753cef1ae084e"), looks := false }, kinds := [], alts := [], laidByText := true, laidKinds := [.data, .data, .data], laidTests := true, laidLooks := .later }
def ReduceTightCardSaid : Prop := Claim7.holds Tryz.pinned (.plain (OpenSpec.ofChange reduceTightSpec)) reduceTightCard

/-- THE TIED CARD OF 'lorrylaw56.ReduceArcs'. -/
def reduceArcsCard : Claim7 := { stood := { row := reduceArcsRow, standIns := [], harness := (true, "1b03005a150d4cd32794a249fe3b46afa56d59d80b6b9ebf154753cef1ae084e"), looks := false }, kinds := [], alts := [], laidByText := true, laidKinds := [.data, .data, .data], laidTests := true, laidLooks := .later }
def ReduceArcsCardSaid : Prop := Claim7.holds Tryz.pinned (.plain (OpenSpec.ofChange reduceArcsSpec)) reduceArcsCard

/-- THE TIED CARD OF 'lorrylaw56.ReduceSaves'. -/
def reduceSavesCard : Claim7 := { stood := { row := reduceSavesRow, standIns := [], harness := (true, "1b03005a150d4cd32794a249fe3b46afa56d59d80b6b9ebf154753cef1ae084e"), looks := false }, kinds := [], alts := [], laidByText := true, laidKinds := [.data, .data, .data], laidTests := true, laidLooks := .later }
def ReduceSavesCardSaid : Prop := Claim7.holds Tryz.pinned (.plain (OpenSpec.ofChange reduceSavesSpec)) reduceSavesCard

/-- THE TIED CARD OF 'lorrylaw56.ReduceColumns'. -/
def reduceColumnsCard : Claim7 := { stood := { row := reduceColumnsRow, standIns := [], harness := (true, "1b03005a150d4cd32794a249fe3b46afa56d59d80b6b9ebf154753cef1ae084e"), looks := false }, kinds := [], alts := [], laidByText := true, laidKinds := [.data, .data, .data], laidTests := true, laidLooks := .later }
def ReduceColumnsCardSaid : Prop := Claim7.holds Tryz.pinned (.plain (OpenSpec.ofChange reduceColumnsSpec)) reduceColumnsCard

/-- THE TIED CARD OF 'lorrylaw56.ReduceNarrows'. -/
def reduceNarrowsCard : Claim7 := { stood := { row := reduceNarrowsRow, standIns := [], harness := (true, "1b03005a150d4cd32794a249fe3b46afa56d59d80b6b9ebf154753cef1ae084e"), looks := false }, kinds := [], alts := [], laidByText := true, laidKinds := [.data, .data, .data], laidTests := true, laidLooks := .later }
def ReduceNarrowsCardSaid : Prop := Claim7.holds Tryz.pinned (.plain (OpenSpec.ofChange reduceNarrowsSpec)) reduceNarrowsCard

/-- THE SECOND FORM's CARD OF 'lorrylaw56.ReduceTight'. -/
def reduceTightUptoCard : Claim7 := { stood := { row := reduceTightUptoRow, standIns := [], harness := (true, "1b03005a150d4cd32794a249fe3b46afa56d59d80b6b9ebf154753cef1ae084e"), looks := false }, kinds := [], alts := [], laidByText := true, laidKinds := [.data, .data, .data], laidTests := true, laidLooks := .later }
def ReduceTightUptoCardSaid : Prop := Claim7.holds Tryz.pinned (.plain (OpenSpec.upto reduceTightSpec)) reduceTightUptoCard

/-- THE SECOND FORM's CARD OF 'lorrylaw56.ReduceArcs'. -/
def reduceArcsUptoCard : Claim7 := { stood := { row := reduceArcsUptoRow, standIns := [], harness := (true, "1b03005a150d4cd32794a249fe3b46afa56d59d80b6b9ebf154753cef1ae084e"), looks := false }, kinds := [], alts := [], laidByText := true, laidKinds := [.data, .data, .data], laidTests := true, laidLooks := .later }
def ReduceArcsUptoCardSaid : Prop := Claim7.holds Tryz.pinned (.plain (OpenSpec.upto reduceArcsSpec)) reduceArcsUptoCard

/-- THE SECOND FORM's CARD OF 'lorrylaw56.ReduceSaves'. -/
def reduceSavesUptoCard : Claim7 := { stood := { row := reduceSavesUptoRow, standIns := [], harness := (true, "1b03005a150d4cd32794a249fe3b46afa56d59d80b6b9ebf154753cef1ae084e"), looks := false }, kinds := [], alts := [], laidByText := true, laidKinds := [.data, .data, .data], laidTests := true, laidLooks := .later }
def ReduceSavesUptoCardSaid : Prop := Claim7.holds Tryz.pinned (.plain (OpenSpec.upto reduceSavesSpec)) reduceSavesUptoCard

/-- THE SECOND FORM's CARD OF 'lorrylaw56.ReduceColumns'. -/
def reduceColumnsUptoCard : Claim7 := { stood := { row := reduceColumnsUptoRow, standIns := [], harness := (true, "1b03005a150d4cd32794a249fe3b46afa56d59d80b6b9ebf154753cef1ae084e"), looks := false }, kinds := [], alts := [], laidByText := true, laidKinds := [.data, .data, .data], laidTests := true, laidLooks := .later }
def ReduceColumnsUptoCardSaid : Prop := Claim7.holds Tryz.pinned (.plain (OpenSpec.upto reduceColumnsSpec)) reduceColumnsUptoCard

/-- THE SECOND FORM's CARD OF 'lorrylaw56.ReduceNarrows'. -/
def reduceNarrowsUptoCard : Claim7 := { stood := { row := reduceNarrowsUptoRow, standIns := [], harness := (true, "1b03005a150d4cd32794a249fe3b46afa56d59d80b6b9ebf154753cef1ae084e"), looks := false }, kinds := [], alts := [], laidByText := true, laidKinds := [.data, .data, .data], laidTests := true, laidLooks := .later }
def ReduceNarrowsUptoCardSaid : Prop := Claim7.holds Tryz.pinned (.plain (OpenSpec.upto reduceNarrowsSpec)) reduceNarrowsUptoCard
end Rows
end Go.Proofs.YtbilkblifgaflaaGreatDoor
