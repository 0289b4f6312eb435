/-
  DERIVED. GIVEN WITH THE SEED: THE CARDS: each row of YtfldlilicmbmkaaGreatDoorRows.lean that lists a variable, with what it lists TIED to the program's text (the seventh form; the later family's looks); each row that meets fmt, with fmt's text TOLD by the authors' own Lean function (tested against real Go, not proved from fmt's source: count such statements apart). THE CARD IS WHAT COUNTS. Prove the row's statement (the work); the ties are given (YtfldlilicmbmkaaGreatDoorTie.lean); close each card by the builder's one call (the guide's Derived/Test/ToyasCard.lean, 'card_holds'). Laid BY PROGRAM, IN A SANDBOX (cutbox-door.mjs). By AI agents, Wed Nov 11 2026. No macro, syntax, notation, axiom, sorry.
-/
import Derived.Test.YtfldlilicmbmkaaGreatDoorRows
import GoSem.ClaimSeven
namespace Go.Proofs.YtfldlilicmbmkaaGreatDoor
namespace Rows

/-- THE TIED CARD OF 'lorrylaw19.SlackFinds'. -/
def slackFindsCard : Claim7 := { stood := { row := slackFindsRow, standIns := [], harness := (true, "2a66892a72a716fcb334c0e3d08fa0515881ad543732babc087f8b9af01939cf"), looks := false }, kinds := [], alts := [], laidByText := true, laidKinds := [.data, .data, .data], laidTests := true, laidLooks := .later }
def SlackFindsCardSaid : Prop := Claim7.holds Tryz.pinned (.plain (OpenSpec.ofChange slackFindsSpec)) slackFindsCard

/-- THE TIED CARD OF 'lorrylaw19.SlackDelays'. -/
def slackDelaysCard : Claim7 := { stood := { row := slackDelaysRow, standIns := [], harness := (true, "2a66892a72a716fcb334c0e3d08fa0515881ad543732babc087f8b9af01939cf"), looks := false }, kinds := [], alts := [], laidByText := true, laidKinds := [.data, .data, .data], laidTests := true, laidLooks := .later }
def SlackDelaysCardSaid : Prop := Claim7.holds Tryz.pinned (.plain (OpenSpec.ofChange slackDelaysSpec)) slackDelaysCard

/-- THE TIED CARD OF 'lorrylaw21.RouteEvaluates'. -/
def routeEvaluatesCard : Claim7 := { stood := { row := routeEvaluatesRow, standIns := [], harness := (true, "2a66892a72a716fcb334c0e3d08fa0515881ad543732babc087f8b9af01939cf"), looks := false }, kinds := [], alts := [], laidByText := true, laidKinds := [.data, .data, .data], laidTests := true, laidLooks := .later }
def RouteEvaluatesCardSaid : Prop := Claim7.holds Tryz.pinned (.plain (OpenSpec.ofChange routeEvaluatesSpec)) routeEvaluatesCard

/-- THE TIED CARD OF 'lorrylaw21.RoutePrices'. -/
def routePricesCard : Claim7 := { stood := { row := routePricesRow, standIns := [], harness := (true, "2a66892a72a716fcb334c0e3d08fa0515881ad543732babc087f8b9af01939cf"), looks := false }, kinds := [], alts := [], laidByText := true, laidKinds := [.data, .data, .data], laidTests := true, laidLooks := .later }
def RoutePricesCardSaid : Prop := Claim7.holds Tryz.pinned (.plain (OpenSpec.ofChange routePricesSpec)) routePricesCard

/-- THE TIED CARD OF 'lorrylaw21.RouteRests'. -/
def routeRestsCard : Claim7 := { stood := { row := routeRestsRow, standIns := [], harness := (true, "2a66892a72a716fcb334c0e3d08fa0515881ad543732babc087f8b9af01939cf"), looks := false }, kinds := [], alts := [], laidByText := true, laidKinds := [.data, .data, .data], laidTests := true, laidLooks := .later }
def RouteRestsCardSaid : Prop := Claim7.holds Tryz.pinned (.plain (OpenSpec.ofChange routeRestsSpec)) routeRestsCard

/-- THE TIED CARD OF 'lorrylaw21.RouteParts'. -/
def routePartsCard : Claim7 := { stood := { row := routePartsRow, standIns := [], harness := (true, "2a66892a72a716fcb334c0e3d08fa0515881ad543732babc087f8b9af01939cf"), looks := false }, kinds := [], alts := [], laidByText := true, laidKinds := [.data, .data, .data], laidTests := true, laidLooks := .later }
def RoutePartsCardSaid : Prop := Claim7.holds Tryz.pinned (.plain (OpenSpec.ofChange routePartsSpec)) routePartsCard

/-- THE TIED CARD OF 'lorrylaw21.RouteRules'. -/
def routeRulesCard : Claim7 := { stood := { row := routeRulesRow, standIns := [], harness := (true, "2a66892a72a716fcb334c0e3d08fa0515881ad543732babc087f8b9af01939cf"), looks := false }, kinds := [], alts := [], laidByText := true, laidKinds := [.data, .data, .data], laidTests := true, laidLooks := .later }
def RouteRulesCardSaid : Prop := Claim7.holds Tryz.pinned (.plain (OpenSpec.ofChange routeRulesSpec)) routeRulesCard

/-- THE SECOND FORM's CARD OF 'lorrylaw19.SlackFinds'. -/
def slackFindsUptoCard : Claim7 := { stood := { row := slackFindsUptoRow, standIns := [], harness := (true, "2a66892a72a716fcb334c0e3d08fa0515881ad543732babc087f8b9af01939cf"), looks := false }, kinds := [], alts := [], laidByText := true, laidKinds := [.data, .data, .data], laidTests := true, laidLooks := .later }
def SlackFindsUptoCardSaid : Prop := Claim7.holds Tryz.pinned (.plain (OpenSpec.upto slackFindsSpec)) slackFindsUptoCard

/-- THE SECOND FORM's CARD OF 'lorrylaw19.SlackDelays'. -/
def slackDelaysUptoCard : Claim7 := { stood := { row := slackDelaysUptoRow, standIns := [], harness := (true, "2a66892a72a716fcb334c0e3d08fa0515881ad543732babc087f8b9af01939cf"), looks := false }, kinds := [], alts := [], laidByText := true, laidKinds := [.data, .data, .data], laidTests := true, laidLooks := .later }
def SlackDelaysUptoCardSaid : Prop := Claim7.holds Tryz.pinned (.plain (OpenSpec.upto slackDelaysSpec)) slackDelaysUptoCard

/-- THE SECOND FORM's CARD OF 'lorrylaw21.RouteEvaluates'. -/
def routeEvaluatesUptoCard : Claim7 := { stood := { row := routeEvaluatesUptoRow, standIns := [], harness := (true, "2a66892a72a716fcb334c0e3d08fa0515881ad543732babc087f8b9af01939cf"), looks := false }, kinds := [], alts := [], laidByText := true, laidKinds := [.data, .data, .data], laidTests := true, laidLooks := .later }
def RouteEvaluatesUptoCardSaid : Prop := Claim7.holds Tryz.pinned (.plain (OpenSpec.upto routeEvaluatesSpec)) routeEvaluatesUptoCard

/-- THE SECOND FORM's CARD OF 'lorrylaw21.RoutePrices'. -/
def routePricesUptoCard : Claim7 := { stood := { row := routePricesUptoRow, standIns := [], harness := (true, "2a66892a72a716fcb334c0e3d08fa0515881ad543732babc087f8b9af01939cf"), looks := false }, kinds := [], alts := [], laidByText := true, laidKinds := [.data, .data, .data], laidTests := true, laidLooks := .later }
def RoutePricesUptoCardSaid : Prop := Claim7.holds Tryz.pinned (.plain (OpenSpec.upto routePricesSpec)) routePricesUptoCard

/-- THE SECOND FORM's CARD OF 'lorrylaw21.RouteRests'. -/
def routeRestsUptoCard : Claim7 := { stood := { row := routeRestsUptoRow, standIns := [], harness := (true, "2a66892a72a716fcb334c0e3d08fa0515881ad543732babc087f8b9af01939cf"), looks := false }, kinds := [], alts := [], laidByText := true, laidKinds := [.data, .data, .data], laidTests := true, laidLooks := .later }
def RouteRestsUptoCardSaid : Prop := Claim7.holds Tryz.pinned (.plain (OpenSpec.upto routeRestsSpec)) routeRestsUptoCard

/-- THE SECOND FORM's CARD OF 'lorrylaw21.RouteParts'. -/
def routePartsUptoCard : Claim7 := { stood := { row := routePartsUptoRow, standIns := [], harness := (true, "2a66892a72a716fcb334c0e3d08fa0515881ad543732babc087f8b9af01939cf"), looks := false }, kinds := [], alts := [], laidByText := true, laidKinds := [.data, .data, .data], laidTests := true, laidLooks := .later }
def RoutePartsUptoCardSaid : Prop := Claim7.holds Tryz.pinned (.plain (OpenSpec.upto routePartsSpec)) routePartsUptoCard

/-- THE SECOND FORM's CARD OF 'lorrylaw21.RouteRules'. -/
def routeRulesUptoCard : Claim7 := { stood := { row := routeRulesUptoRow, standIns := [], harness := (true, "2a66892a72a716fcb334c0e3d08fa0515881ad543732babc087f8b9af01939cf"), looks := false }, kinds := [], alts := [], laidByText := true, laidKinds := [.data, .data, .data], laidTests := true, laidLooks := .later }
def RouteRulesUptoCardSaid : Prop := Claim7.holds Tryz.pinned (.plain (OpenSpec.upto routeRulesSpec)) routeRulesUptoCard
end Rows
end Go.Proofs.YtfldlilicmbmkaaGreatDoor
