/-
  DERIVED. GIVEN WITH THE SEED: THE CARDS: each row of YtodiddgpdmigcaaGreatDoorRows.lean that lists a variable, with what it lists TIED to the program's text (the seventh form; the later family's looks); each row that meets fmt, with fmt's text TOLD by the authors' own Lean function (tested against real Go, not proved from fmt's source: count such statements apart). THE CARD IS WHAT COUNTS. Prove the row's statement (the work); the ties are given (YtodiddgpdmigcaaGreatDoorTie.lean); close each card by the builder's one call (the guide's Derived/Test/ToyasCard.lean, 'card_holds'). Laid BY PROGRAM, IN A SANDBOX (cutbox-door.mjs). By AI agents, Wed Nov 11 2026. No macro, syntax, notation, axiom, sorry.
-/
import Derived.Test.YtodiddgpdmigcaaGreatDoorRows
import GoSem.ClaimSeven
namespace Go.Proofs.YtodiddgpdmigcaaGreatDoor
namespace Rows

/-- THE TIED CARD OF 'pendulumlaw4.JourPlays'. -/
def jourPlaysCard : Claim7 := { stood := { row := jourPlaysRow, standIns := [], harness := (true, "384fd09274d6d334fd4ce49d25a2a74b96bf07d5218073b21b992809a02e5f0c"), looks := true }, kinds := [], alts := [], laidByText := true, laidKinds := [.sentinel, .sentinel, .sentinel, .sentinel, .sentinel, .sentinel, .sentinel, .sentinel, .sentinel, .sentinel, .sentinel, .sentinel, .sentinel, .sentinel, .sentinel, .sentinel, .sentinel, .sentinel, .sentinel, .sentinel, .sentinel], laidTests := true, laidLooks := .later }
def JourPlaysCardSaid : Prop := Claim7.holds Tryz.pinned (.plain (OpenSpec.ofChange jourPlaysSpec)) jourPlaysCard

/-- THE TIED CARD OF 'pendulumlaw4.JourRoom'. -/
def jourRoomCard : Claim7 := { stood := { row := jourRoomRow, standIns := [], harness := (true, "384fd09274d6d334fd4ce49d25a2a74b96bf07d5218073b21b992809a02e5f0c"), looks := true }, kinds := [], alts := [], laidByText := true, laidKinds := [.sentinel, .sentinel, .sentinel, .sentinel, .sentinel, .sentinel, .sentinel, .sentinel, .sentinel, .sentinel, .sentinel, .sentinel, .sentinel, .sentinel, .sentinel, .sentinel, .sentinel, .sentinel, .sentinel, .sentinel, .sentinel], laidTests := true, laidLooks := .later }
def JourRoomCardSaid : Prop := Claim7.holds Tryz.pinned (.plain (OpenSpec.ofChange jourRoomSpec)) jourRoomCard

/-- THE TIED CARD OF 'pendulumlaw4.JourGoes'. -/
def jourGoesCard : Claim7 := { stood := { row := jourGoesRow, standIns := [], harness := (true, "384fd09274d6d334fd4ce49d25a2a74b96bf07d5218073b21b992809a02e5f0c"), looks := true }, kinds := [], alts := [], laidByText := true, laidKinds := [.data, .data, .data, .sentinel, .sentinel, .sentinel, .sentinel, .sentinel, .sentinel], laidTests := true, laidLooks := .later }
def JourGoesCardSaid : Prop := Claim7.holds Tryz.pinned (.plain (OpenSpec.ofChange jourGoesSpec)) jourGoesCard

/-- THE SECOND FORM's CARD OF 'pendulumlaw4.JourPlays'. -/
def jourPlaysUptoCard : Claim7 := { stood := { row := jourPlaysUptoRow, standIns := [], harness := (true, "384fd09274d6d334fd4ce49d25a2a74b96bf07d5218073b21b992809a02e5f0c"), looks := true }, kinds := [], alts := [], laidByText := true, laidKinds := [.sentinel, .sentinel, .sentinel, .sentinel, .sentinel, .sentinel, .sentinel, .sentinel, .sentinel, .sentinel, .sentinel, .sentinel, .sentinel, .sentinel, .sentinel, .sentinel, .sentinel, .sentinel, .sentinel, .sentinel, .sentinel], laidTests := true, laidLooks := .later }
def JourPlaysUptoCardSaid : Prop := Claim7.holds Tryz.pinned (.plain (OpenSpec.upto jourPlaysSpec)) jourPlaysUptoCard

/-- THE SECOND FORM's CARD OF 'pendulumlaw4.JourRoom'. -/
def jourRoomUptoCard : Claim7 := { stood := { row := jourRoomUptoRow, standIns := [], harness := (true, "384fd09274d6d334fd4ce49d25a2a74b96bf07d5218073b21b992809a02e5f0c"), looks := true }, kinds := [], alts := [], laidByText := true, laidKinds := [.sentinel, .sentinel, .sentinel, .sentinel, .sentinel, .sentinel, .sentinel, .sentinel, .sentinel, .sentinel, .sentinel, .sentinel, .sentinel, .sentinel, .sentinel, .sentinel, .sentinel, .sentinel, .sentinel, .sentinel, .sentinel], laidTests := true, laidLooks := .later }
def JourRoomUptoCardSaid : Prop := Claim7.holds Tryz.pinned (.plain (OpenSpec.upto jourRoomSpec)) jourRoomUptoCard

/-- THE SECOND FORM's CARD OF 'pendulumlaw4.JourGoes'. -/
def jourGoesUptoCard : Claim7 := { stood := { row := jourGoesUptoRow, standIns := [], harness := (true, "384fd09274d6d334fd4ce49d25a2a74b96bf07d5218073b21b992809a02e5f0c"), looks := true }, kinds := [], alts := [], laidByText := true, laidKinds := [.data, .data, .data, .sentinel, .sentinel, .sentinel, .sentinel, .sentinel, .sentinel], laidTests := true, laidLooks := .later }
def JourGoesUptoCardSaid : Prop := Claim7.holds Tryz.pinned (.plain (OpenSpec.upto jourGoesSpec)) jourGoesUptoCard
end Rows
end Go.Proofs.YtodiddgpdmigcaaGreatDoor
