/-
  DERIVED. GIVEN WITH THE SEED: THE CARDS: each row of YtbkglcehcjlmgaaDoorRows.lean that lists a variable, with what it lists TIED to the program's text (the seventh form; the later family's looks); each row that meets fmt, with fmt's text TOLD by the authors' own Lean function (tested against real Go, not proved from fmt's source: count such statements apart). THE CARD IS WHAT COUNTS. Prove the row's statement (the work); the ties are given (YtbkglcehcjlmgaaDoorTie.lean); close each card by the builder's one call (the guide's Derived/Test/ToyasCard.lean, 'card_holds'). Laid BY PROGRAM, IN A SANDBOX (cutbox-door.mjs). By AI agents, Wed Nov 11 2026. No macro, syntax, notation, axiom, sorry.
-/
import Derived.Test.YtbkglcehcjlmgaaDoorRows
import GoSem.ClaimSeven
namespace Go.Proofs.YtbkglcehcjlmgaaDoor
namespace Rows

/-- THE TIED CARD OF 'pendulumlaw26.PlanSays'. -/
def planSaysCard : Claim7 := { stood := { row := planSaysRow, standIns := [], harness := (true, "03769d1dcef223295062eb0113c85a370929f8baa0463a2e15c5d315754ef655"), looks := true }, kinds := [], alts := [], laidByText := true, laidKinds := [.sentinel, .sentinel, .sentinel, .sentinel, .sentinel, .sentinel, .sentinel, .sentinel, .sentinel, .sentinel, .sentinel, .sentinel, .sentinel, .sentinel, .sentinel, .sentinel, .sentinel, .sentinel, .sentinel, .sentinel, .sentinel], laidTests := true, laidLooks := .later }
def PlanSaysCardSaid : Prop := Claim7.holds Tryd.pinned (.plain (OpenSpec.ofChange planSaysSpec)) planSaysCard

/-- THE TIED CARD OF 'pendulumlaw26.PlanBack'. -/
def planBackCard : Claim7 := { stood := { row := planBackRow, standIns := [], harness := (true, "03769d1dcef223295062eb0113c85a370929f8baa0463a2e15c5d315754ef655"), looks := true }, kinds := [], alts := [], laidByText := true, laidKinds := [.sentinel], laidTests := true, laidLooks := .later }
def PlanBackCardSaid : Prop := Claim7.holds Tryd.pinned (.plain (OpenSpec.ofChange planBackSpec)) planBackCard

/-- THE TIED CARD OF 'pendulumlaw26.PlanFaces'. -/
def planFacesCard : Claim7 := { stood := { row := planFacesRow, standIns := [], harness := (true, "03769d1dcef223295062eb0113c85a370929f8baa0463a2e15c5d315754ef655"), looks := true }, kinds := [], alts := [], laidByText := true, laidKinds := [.sentinel, .sentinel, .sentinel, .sentinel, .sentinel, .sentinel, .sentinel, .sentinel, .sentinel, .sentinel, .sentinel, .sentinel, .sentinel, .sentinel, .sentinel, .sentinel, .sentinel, .sentinel, .sentinel, .sentinel, .sentinel], laidTests := true, laidLooks := .later }
def PlanFacesCardSaid : Prop := Claim7.holds Tryd.pinned (.plain (OpenSpec.ofChange planFacesSpec)) planFacesCard

/-- THE TIED CARD OF 'pendulumlaw26.PlanCarries'. -/
def planCarriesCard : Claim7 := { stood := { row := planCarriesRow, standIns := [], harness := (true, "03769d1dcef223295062eb0113c85a370929f8baa0463a2e15c5d315754ef655"), looks := true }, kinds := [], alts := [], laidByText := true, laidKinds := [.data, .data, .data, .sentinel], laidTests := true, laidLooks := .later }
def PlanCarriesCardSaid : Prop := Claim7.holds Tryd.pinned (.plain (OpenSpec.ofChange planCarriesSpec)) planCarriesCard

/-- THE SECOND FORM's CARD OF 'pendulumlaw26.PlanSays'. -/
def planSaysUptoCard : Claim7 := { stood := { row := planSaysUptoRow, standIns := [], harness := (true, "03769d1dcef223295062eb0113c85a370929f8baa0463a2e15c5d315754ef655"), looks := true }, kinds := [], alts := [], laidByText := true, laidKinds := [.sentinel, .sentinel, .sentinel, .sentinel, .sentinel, .sentinel, .sentinel, .sentinel, .sentinel, .sentinel, .sentinel, .sentinel, .sentinel, .sentinel, .sentinel, .sentinel, .sentinel, .sentinel, .sentinel, .sentinel, .sentinel], laidTests := true, laidLooks := .later }
def PlanSaysUptoCardSaid : Prop := Claim7.holds Tryd.pinned (.plain (OpenSpec.upto planSaysSpec)) planSaysUptoCard

/-- THE SECOND FORM's CARD OF 'pendulumlaw26.PlanBack'. -/
def planBackUptoCard : Claim7 := { stood := { row := planBackUptoRow, standIns := [], harness := (true, "03769d1dcef223295062eb0113c85a370929f8baa0463a2e15c5d315754ef655"), looks := true }, kinds := [], alts := [], laidByText := true, laidKinds := [.sentinel], laidTests := true, laidLooks := .later }
def PlanBackUptoCardSaid : Prop := Claim7.holds Tryd.pinned (.plain (OpenSpec.upto planBackSpec)) planBackUptoCard

/-- THE SECOND FORM's CARD OF 'pendulumlaw26.PlanFaces'. -/
def planFacesUptoCard : Claim7 := { stood := { row := planFacesUptoRow, standIns := [], harness := (true, "03769d1dcef223295062eb0113c85a370929f8baa0463a2e15c5d315754ef655"), looks := true }, kinds := [], alts := [], laidByText := true, laidKinds := [.sentinel, .sentinel, .sentinel, .sentinel, .sentinel, .sentinel, .sentinel, .sentinel, .sentinel, .sentinel, .sentinel, .sentinel, .sentinel, .sentinel, .sentinel, .sentinel, .sentinel, .sentinel, .sentinel, .sentinel, .sentinel], laidTests := true, laidLooks := .later }
def PlanFacesUptoCardSaid : Prop := Claim7.holds Tryd.pinned (.plain (OpenSpec.upto planFacesSpec)) planFacesUptoCard

/-- THE SECOND FORM's CARD OF 'pendulumlaw26.PlanCarries'. -/
def planCarriesUptoCard : Claim7 := { stood := { row := planCarriesUptoRow, standIns := [], harness := (true, "03769d1dcef223295062eb0113c85a370929f8baa0463a2e15c5d315754ef655"), looks := true }, kinds := [], alts := [], laidByText := true, laidKinds := [.data, .data, .data, .sentinel], laidTests := true, laidLooks := .later }
def PlanCarriesUptoCardSaid : Prop := Claim7.holds Tryd.pinned (.plain (OpenSpec.upto planCarriesSpec)) planCarriesUptoCard
end Rows
end Go.Proofs.YtbkglcehcjlmgaaDoor
