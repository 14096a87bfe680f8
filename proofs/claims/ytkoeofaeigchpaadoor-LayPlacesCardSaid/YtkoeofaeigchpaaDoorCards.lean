/-
  DERIVED. GIVEN WITH THE SEED: THE CARDS: each row of YtkoeofaeigchpaaDoorRows.lean that lists a variable, with what it lists TIED to the program's text (the seventh form; the later family's looks); each row that meets fmt, with fmt's text TOLD by the authors' own Lean function (tested against real Go, not proved from fmt's source: count such statements apart). THE CARD IS WHAT COUNTS. Prove the row's statement (the work); the ties are given (YtkoeofaeigchpaaDoorTie.lean); close each card by the builder's one call (the guide's Derived/Test/ToyasCard.lean, 'card_holds'). Laid BY PROGRAM, IN A SANDBOX (cutbox-door.mjs). By AI agents, Wed Nov 11 2026. No macro, syntax, notation, axiom, sorry.
-/
import Derived.Test.YtkoeofaeigchpaaDoorRows
import GoSem.ClaimSeven
namespace Go.Proofs.YtkoeofaeigchpaaDoor
namespace Rows

/-- THE TIED CARD OF 'pendulumlaw20.LayWrong'. -/
def layWrongCard : Claim7 := { stood := { row := layWrongRow, standIns := [], harness := (true, "f6553da77026621e4e958c0f4916f46df27c75d7341c15c3b6ba01f4b48fcb05"), looks := true }, kinds := [], alts := [], laidByText := true, laidKinds := [.data, .data, .data, .sentinel, .sentinel, .sentinel, .sentinel, .sentinel, .sentinel, .sentinel, .sentinel, .sentinel, .sentinel, .sentinel, .sentinel, .sentinel, .sentinel, .sentinel, .sentinel, .sentinel, .sentinel, .sentinel, .sentinel, .sentinel], laidTests := true, laidLooks := .later }
def LayWrongCardSaid : Prop := Claim7.holds Tryd.pinned (.plain (OpenSpec.ofChange layWrongSpec)) layWrongCard

/-- THE TIED CARD OF 'pendulumlaw20.LayTowers'. -/
def layTowersCard : Claim7 := { stood := { row := layTowersRow, standIns := [], harness := (true, "f6553da77026621e4e958c0f4916f46df27c75d7341c15c3b6ba01f4b48fcb05"), looks := true }, kinds := [], alts := [], laidByText := true, laidKinds := [.data, .data, .data, .sentinel, .sentinel, .sentinel, .sentinel, .sentinel, .sentinel, .sentinel, .sentinel, .sentinel, .sentinel, .sentinel, .sentinel, .sentinel, .sentinel, .sentinel, .sentinel, .sentinel, .sentinel, .sentinel, .sentinel, .sentinel], laidTests := true, laidLooks := .later }
def LayTowersCardSaid : Prop := Claim7.holds Tryd.pinned (.plain (OpenSpec.ofChange layTowersSpec)) layTowersCard

/-- THE TIED CARD OF 'pendulumlaw20.LayPlaces'. -/
def layPlacesCard : Claim7 := { stood := { row := layPlacesRow, standIns := [], harness := (true, "f6553da77026621e4e958c0f4916f46df27c75d7341c15c3b6ba01f4b48fcb05"), looks := true }, kinds := [], alts := [], laidByText := true, laidKinds := [.data, .data, .data, .sentinel, .sentinel, .sentinel, .sentinel, .sentinel, .sentinel], laidTests := true, laidLooks := .later }
def LayPlacesCardSaid : Prop := Claim7.holds Tryd.pinned (.plain (OpenSpec.ofChange layPlacesSpec)) layPlacesCard

/-- THE SECOND FORM's CARD OF 'pendulumlaw20.LayWrong'. -/
def layWrongUptoCard : Claim7 := { stood := { row := layWrongUptoRow, standIns := [], harness := (true, "f6553da77026621e4e958c0f4916f46df27c75d7341c15c3b6ba01f4b48fcb05"), looks := true }, kinds := [], alts := [], laidByText := true, laidKinds := [.data, .data, .data, .sentinel, .sentinel, .sentinel, .sentinel, .sentinel, .sentinel, .sentinel, .sentinel, .sentinel, .sentinel, .sentinel, .sentinel, .sentinel, .sentinel, .sentinel, .sentinel, .sentinel, .sentinel, .sentinel, .sentinel, .sentinel], laidTests := true, laidLooks := .later }
def LayWrongUptoCardSaid : Prop := Claim7.holds Tryd.pinned (.plain (OpenSpec.upto layWrongSpec)) layWrongUptoCard

/-- THE SECOND FORM's CARD OF 'pendulumlaw20.LayTowers'. -/
def layTowersUptoCard : Claim7 := { stood := { row := layTowersUptoRow, standIns := [], harness := (true, "f6553da77026621e4e958c0f4916f46df27c75d7341c15c3b6ba01f4b48fcb05"), looks := true }, kinds := [], alts := [], laidByText := true, laidKinds := [.data, .data, .data, .sentinel, .sentinel, .sentinel, .sentinel, .sentinel, .sentinel, .sentinel, .sentinel, .sentinel, .sentinel, .sentinel, .sentinel, .sentinel, .sentinel, .sentinel, .sentinel, .sentinel, .sentinel, .sentinel, .sentinel, .sentinel], laidTests := true, laidLooks := .later }
def LayTowersUptoCardSaid : Prop := Claim7.holds Tryd.pinned (.plain (OpenSpec.upto layTowersSpec)) layTowersUptoCard

/-- THE SECOND FORM's CARD OF 'pendulumlaw20.LayPlaces'. -/
def layPlacesUptoCard : Claim7 := { stood := { row := layPlacesUptoRow, standIns := [], harness := (true, "f6553da77026621e4e958c0f4916f46df27c75d7341c15c3b6ba01f4b48fcb05"), looks := true }, kinds := [], alts := [], laidByText := true, laidKinds := [.data, .data, .data, .sentinel, .sentinel, .sentinel, .sentinel, .sentinel, .sentinel], laidTests := true, laidLooks := .later }
def LayPlacesUptoCardSaid : Prop := Claim7.holds Tryd.pinned (.plain (OpenSpec.upto layPlacesSpec)) layPlacesUptoCard
end Rows
end Go.Proofs.YtkoeofaeigchpaaDoor
