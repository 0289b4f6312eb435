/-
  DERIVED. GIVEN WITH THE SEED: THE CARDS: each row of YtoedkepcaigkeaaGreatDoorRows.lean that lists a variable, with what it lists TIED to the program's text (the seventh form; the later family's looks); each row that meets fmt, with fmt's text TOLD by the authors' own Lean function (tested against real Go, not proved from fmt's source: count such statements apart). THE CARD IS WHAT COUNTS. Prove the row's statement (the work); the ties are given (YtoedkepcaigkeaaGreatDoorTie.lean); close each card by the builder's one call (the guide's Derived/Test/ToyasCard.lean, 'card_holds'). Laid BY PROGRAM, IN A SANDBOX (cutbox-door.mjs). By AI agents, Wed Nov 11 2026. No macro, syntax, notation, axiom, sorry.
-/
import Derived.Test.YtoedkepcaigkeaaGreatDoorRows
import GoSem.ClaimSeven
namespace Go.Proofs.YtoedkepcaigkeaaGreatDoor
namespace Rows

/-- THE TIED CARD OF 'lorrylaw47.PrefixAll'. -/
def prefixAllCard : Claim7 := { stood := { row := prefixAllRow, standIns := [], harness := (true, "5f4a01e2c1d55b1a57433910bdceccae51aa3f47796565beb59db26539736bab"), looks := false }, kinds := [], alts := [], laidByText := true, laidKinds := [.data, .data, .data], laidTests := true, laidLooks := .later }
def PrefixAllCardSaid : Prop := Claim7.holds Tryz.pinned (.plain (OpenSpec.ofChange prefixAllSpec)) prefixAllCard

/-- THE TIED CARD OF 'lorrylaw47.PrefixLeast'. -/
def prefixLeastCard : Claim7 := { stood := { row := prefixLeastRow, standIns := [], harness := (true, "5f4a01e2c1d55b1a57433910bdceccae51aa3f47796565beb59db26539736bab"), looks := false }, kinds := [], alts := [], laidByText := true, laidKinds := [.data, .data, .data], laidTests := true, laidLooks := .later }
def PrefixLeastCardSaid : Prop := Claim7.holds Tryz.pinned (.plain (OpenSpec.ofChange prefixLeastSpec)) prefixLeastCard

/-- THE TIED CARD OF 'lorrylaw47.PrefixLonger'. -/
def prefixLongerCard : Claim7 := { stood := { row := prefixLongerRow, standIns := [], harness := (true, "5f4a01e2c1d55b1a57433910bdceccae51aa3f47796565beb59db26539736bab"), looks := false }, kinds := [], alts := [], laidByText := true, laidKinds := [.data, .data, .data], laidTests := true, laidLooks := .later }
def PrefixLongerCardSaid : Prop := Claim7.holds Tryz.pinned (.plain (OpenSpec.ofChange prefixLongerSpec)) prefixLongerCard

/-- THE TIED CARD OF 'lorrylaw22.BestFinds'. -/
def bestFindsCard : Claim7 := { stood := { row := bestFindsRow, standIns := [], harness := (true, "5f4a01e2c1d55b1a57433910bdceccae51aa3f47796565beb59db26539736bab"), looks := false }, kinds := [], alts := [], laidByText := true, laidKinds := [.data, .data, .data], laidTests := true, laidLooks := .later }
def BestFindsCardSaid : Prop := Claim7.holds Tryz.pinned (.plain (OpenSpec.ofChange bestFindsSpec)) bestFindsCard

/-- THE TIED CARD OF 'lorrylaw22.BestAll'. -/
def bestAllCard : Claim7 := { stood := { row := bestAllRow, standIns := [], harness := (true, "5f4a01e2c1d55b1a57433910bdceccae51aa3f47796565beb59db26539736bab"), looks := false }, kinds := [], alts := [], laidByText := true, laidKinds := [.data, .data, .data], laidTests := true, laidLooks := .later }
def BestAllCardSaid : Prop := Claim7.holds Tryz.pinned (.plain (OpenSpec.ofChange bestAllSpec)) bestAllCard

/-- THE TIED CARD OF 'lorrylaw22.BestCheapest'. -/
def bestCheapestCard : Claim7 := { stood := { row := bestCheapestRow, standIns := [], harness := (true, "5f4a01e2c1d55b1a57433910bdceccae51aa3f47796565beb59db26539736bab"), looks := false }, kinds := [], alts := [], laidByText := true, laidKinds := [.data, .data, .data], laidTests := true, laidLooks := .later }
def BestCheapestCardSaid : Prop := Claim7.holds Tryz.pinned (.plain (OpenSpec.ofChange bestCheapestSpec)) bestCheapestCard

/-- THE TIED CARD OF 'lorrylaw22.BestEach'. -/
def bestEachCard : Claim7 := { stood := { row := bestEachRow, standIns := [], harness := (true, "5f4a01e2c1d55b1a57433910bdceccae51aa3f47796565beb59db26539736bab"), looks := false }, kinds := [], alts := [], laidByText := true, laidKinds := [.data, .data, .data], laidTests := true, laidLooks := .later }
def BestEachCardSaid : Prop := Claim7.holds Tryz.pinned (.plain (OpenSpec.ofChange bestEachSpec)) bestEachCard

/-- THE TIED CARD OF 'lorrylaw22.BestOrders'. -/
def bestOrdersCard : Claim7 := { stood := { row := bestOrdersRow, standIns := [], harness := (true, "5f4a01e2c1d55b1a57433910bdceccae51aa3f47796565beb59db26539736bab"), looks := false }, kinds := [], alts := [], laidByText := true, laidKinds := [.data, .data, .data], laidTests := true, laidLooks := .later }
def BestOrdersCardSaid : Prop := Claim7.holds Tryz.pinned (.plain (OpenSpec.ofChange bestOrdersSpec)) bestOrdersCard

/-- THE TIED CARD OF 'lorrylaw47.PrefixBest'. -/
def prefixBestCard : Claim7 := { stood := { row := prefixBestRow, standIns := [], harness := (true, "5f4a01e2c1d55b1a57433910bdceccae51aa3f47796565beb59db26539736bab"), looks := false }, kinds := [], alts := [], laidByText := true, laidKinds := [.data, .data, .data], laidTests := true, laidLooks := .later }
def PrefixBestCardSaid : Prop := Claim7.holds Tryz.pinned (.plain (OpenSpec.ofChange prefixBestSpec)) prefixBestCard

/-- THE TIED CARD OF 'lorrylaw47.PrefixNone'. -/
def prefixNoneCard : Claim7 := { stood := { row := prefixNoneRow, standIns := [], harness := (true, "5f4a01e2c1d55b1a57433910bdceccae51aa3f47796565beb59db26539736bab"), looks := false }, kinds := [], alts := [], laidByText := true, laidKinds := [.data, .data, .data], laidTests := true, laidLooks := .later }
def PrefixNoneCardSaid : Prop := Claim7.holds Tryz.pinned (.plain (OpenSpec.ofChange prefixNoneSpec)) prefixNoneCard

/-- THE SECOND FORM's CARD OF 'lorrylaw47.PrefixAll'. -/
def prefixAllUptoCard : Claim7 := { stood := { row := prefixAllUptoRow, standIns := [], harness := (true, "5f4a01e2c1d55b1a57433910bdceccae51aa3f47796565beb59db26539736bab"), looks := false }, kinds := [], alts := [], laidByText := true, laidKinds := [.data, .data, .data], laidTests := true, laidLooks := .later }
def PrefixAllUptoCardSaid : Prop := Claim7.holds Tryz.pinned (.plain (OpenSpec.upto prefixAllSpec)) prefixAllUptoCard

/-- THE SECOND FORM's CARD OF 'lorrylaw47.PrefixLeast'. -/
def prefixLeastUptoCard : Claim7 := { stood := { row := prefixLeastUptoRow, standIns := [], harness := (true, "5f4a01e2c1d55b1a57433910bdceccae51aa3f47796565beb59db26539736bab"), looks := false }, kinds := [], alts := [], laidByText := true, laidKinds := [.data, .data, .data], laidTests := true, laidLooks := .later }
def PrefixLeastUptoCardSaid : Prop := Claim7.holds Tryz.pinned (.plain (OpenSpec.upto prefixLeastSpec)) prefixLeastUptoCard

/-- THE SECOND FORM's CARD OF 'lorrylaw47.PrefixLonger'. -/
def prefixLongerUptoCard : Claim7 := { stood := { row := prefixLongerUptoRow, standIns := [], harness := (true, "5f4a01e2c1d55b1a57433910bdceccae51aa3f47796565beb59db26539736bab"), looks := false }, kinds := [], alts := [], laidByText := true, laidKinds := [.data, .data, .data], laidTests := true, laidLooks := .later }
def PrefixLongerUptoCardSaid : Prop := Claim7.holds Tryz.pinned (.plain (OpenSpec.upto prefixLongerSpec)) prefixLongerUptoCard

/-- THE SECOND FORM's CARD OF 'lorrylaw22.BestFinds'. -/
def bestFindsUptoCard : Claim7 := { stood := { row := bestFindsUptoRow, standIns := [], harness := (true, "5f4a01e2c1d55b1a57433910bdceccae51aa3f47796565beb59db26539736bab"), looks := false }, kinds := [], alts := [], laidByText := true, laidKinds := [.data, .data, .data], laidTests := true, laidLooks := .later }
def BestFindsUptoCardSaid : Prop := Claim7.holds Tryz.pinned (.plain (OpenSpec.upto bestFindsSpec)) bestFindsUptoCard

/-- THE SECOND FORM's CARD OF 'lorrylaw22.BestAll'. -/
def bestAllUptoCard : Claim7 := { stood := { row := bestAllUptoRow, standIns := [], harness := (true, "5f4a01e2c1d55b1a57433910bdceccae51aa3f47796565beb59db26539736bab"), looks := false }, kinds := [], alts := [], laidByText := true, laidKinds := [.data, .data, .data], laidTests := true, laidLooks := .later }
def BestAllUptoCardSaid : Prop := Claim7.holds Tryz.pinned (.plain (OpenSpec.upto bestAllSpec)) bestAllUptoCard

/-- THE SECOND FORM's CARD OF 'lorrylaw22.BestCheapest'. -/
def bestCheapestUptoCard : Claim7 := { stood := { row := bestCheapestUptoRow, standIns := [], harness := (true, "5f4a01e2c1d55b1a57433910bdceccae51aa3f47796565beb59db26539736bab"), looks := false }, kinds := [], alts := [], laidByText := true, laidKinds := [.data, .data, .data], laidTests := true, laidLooks := .later }
def BestCheapestUptoCardSaid : Prop := Claim7.holds Tryz.pinned (.plain (OpenSpec.upto bestCheapestSpec)) bestCheapestUptoCard

/-- THE SECOND FORM's CARD OF 'lorrylaw22.BestEach'. -/
def bestEachUptoCard : Claim7 := { stood := { row := bestEachUptoRow, standIns := [], harness := (true, "5f4a01e2c1d55b1a57433910bdceccae51aa3f47796565beb59db26539736bab"), looks := false }, kinds := [], alts := [], laidByText := true, laidKinds := [.data, .data, .data], laidTests := true, laidLooks := .later }
def BestEachUptoCardSaid : Prop := Claim7.holds Tryz.pinned (.plain (OpenSpec.upto bestEachSpec)) bestEachUptoCard

/-- THE SECOND FORM's CARD OF 'lorrylaw22.BestOrders'. -/
def bestOrdersUptoCard : Claim7 := { stood := { row := bestOrdersUptoRow, standIns := [], harness := (true, "5f4a01e2c1d55b1a57433910bdceccae51aa3f47796565beb59db26539736bab"), looks := false }, kinds := [], alts := [], laidByText := true, laidKinds := [.data, .data, .data], laidTests := true, laidLooks := .later }
def BestOrdersUptoCardSaid : Prop := Claim7.holds Tryz.pinned (.plain (OpenSpec.upto bestOrdersSpec)) bestOrdersUptoCard

/-- THE SECOND FORM's CARD OF 'lorrylaw47.PrefixBest'. -/
def prefixBestUptoCard : Claim7 := { stood := { row := prefixBestUptoRow, standIns := [], harness := (true, "5f4a01e2c1d55b1a57433910bdceccae51aa3f47796565beb59db26539736bab"), looks := false }, kinds := [], alts := [], laidByText := true, laidKinds := [.data, .data, .data], laidTests := true, laidLooks := .later }
def PrefixBestUptoCardSaid : Prop := Claim7.holds Tryz.pinned (.plain (OpenSpec.upto prefixBestSpec)) prefixBestUptoCard

/-- THE SECOND FORM's CARD OF 'lorrylaw47.PrefixNone'. -/
def prefixNoneUptoCard : Claim7 := { stood := { row := prefixNoneUptoRow, standIns := [], harness := (true, "5f4a01e2c1d55b1a57433910bdceccae51aa3f47796565beb59db26539736bab"), looks := false }, kinds := [], alts := [], laidByText := true, laidKinds := [.data, .data, .data], laidTests := true, laidLooks := .later }
def PrefixNoneUptoCardSaid : Prop := Claim7.holds Tryz.pinned (.plain (OpenSpec.upto prefixNoneSpec)) prefixNoneUptoCard
end Rows
end Go.Proofs.YtoedkepcaigkeaaGreatDoor
