/-
  DERIVED. GIVEN WITH THE SEED: THE CARDS: each row of YthliipenkikefaaGreatDoorRows.lean that lists a variable, with what it lists TIED to the program's text (the seventh form; the later family's looks); each row that meets fmt, with fmt's text TOLD by the authors' own Lean function (tested against real Go, not proved from fmt's source: count such statements apart). THE CARD IS WHAT COUNTS. Prove the row's statement (the work); the ties are given (YthliipenkikefaaGreatDoorTie.lean); close each card by the builder's one call (the guide's Derived/Test/ToyasCard.lean, 'card_holds'). Laid BY PROGRAM, IN A SANDBOX (cutbox-door.mjs). By AI agents, Wed Nov 11 2026. No macro, syntax, notation, axiom, sorry.
-/
import Derived.Test.YthliipenkikefaaGreatDoorRows
import GoSem.ClaimSeven
namespace Go.Proofs.YthliipenkikefaaGreatDoor
namespace Rows

/-- THE TIED CARD OF 'pendulumlaw4.JourNothing'. -/
def jourNothingCard : Claim7 := { stood := { row := jourNothingRow, standIns := [], harness := (true, "66538d9e0ecc2bdcd85cbd563b0fd36a3a40b700ccb26ecc0eb9f4ecf105693d"), looks := true }, kinds := [], alts := [], laidByText := true, laidKinds := [.sentinel, .sentinel, .sentinel, .sentinel, .sentinel, .sentinel, .sentinel, .sentinel, .sentinel, .sentinel, .sentinel, .sentinel, .sentinel, .sentinel, .sentinel, .sentinel, .sentinel, .sentinel, .sentinel, .sentinel, .sentinel], laidTests := true, laidLooks := .later }
def JourNothingCardSaid : Prop := Claim7.holds Tryz.pinned (.plain (OpenSpec.ofChange jourNothingSpec)) jourNothingCard

/-- THE TIED CARD OF 'pendulumlaw4.JourMany'. -/
def jourManyCard : Claim7 := { stood := { row := jourManyRow, standIns := [], harness := (true, "66538d9e0ecc2bdcd85cbd563b0fd36a3a40b700ccb26ecc0eb9f4ecf105693d"), looks := true }, kinds := [], alts := [], laidByText := true, laidKinds := [.data, .data, .data, .sentinel, .sentinel, .sentinel, .sentinel, .sentinel, .sentinel, .sentinel, .sentinel, .sentinel, .sentinel, .sentinel, .sentinel, .sentinel, .sentinel, .sentinel, .sentinel, .sentinel, .sentinel, .sentinel, .sentinel, .sentinel], laidTests := true, laidLooks := .later }
def JourManyCardSaid : Prop := Claim7.holds Tryz.pinned (.plain (OpenSpec.ofChange jourManySpec)) jourManyCard

/-- THE TIED CARD OF 'pendulumlaw4.JourLast'. -/
def jourLastCard : Claim7 := { stood := { row := jourLastRow, standIns := [], harness := (true, "66538d9e0ecc2bdcd85cbd563b0fd36a3a40b700ccb26ecc0eb9f4ecf105693d"), looks := true }, kinds := [], alts := [], laidByText := true, laidKinds := [.data, .data, .data, .sentinel, .sentinel, .sentinel, .sentinel, .sentinel, .sentinel], laidTests := true, laidLooks := .later }
def JourLastCardSaid : Prop := Claim7.holds Tryz.pinned (.plain (OpenSpec.ofChange jourLastSpec)) jourLastCard

/-- THE SECOND FORM's CARD OF 'pendulumlaw4.JourNothing'. -/
def jourNothingUptoCard : Claim7 := { stood := { row := jourNothingUptoRow, standIns := [], harness := (true, "66538d9e0ecc2bdcd85cbd563b0fd36a3a40b700ccb26ecc0eb9f4ecf105693d"), looks := true }, kinds := [], alts := [], laidByText := true, laidKinds := [.sentinel, .sentinel, .sentinel, .sentinel, .sentinel, .sentinel, .sentinel, .sentinel, .sentinel, .sentinel, .sentinel, .sentinel, .sentinel, .sentinel, .sentinel, .sentinel, .sentinel, .sentinel, .sentinel, .sentinel, .sentinel], laidTests := true, laidLooks := .later }
def JourNothingUptoCardSaid : Prop := Claim7.holds Tryz.pinned (.plain (OpenSpec.upto jourNothingSpec)) jourNothingUptoCard

/-- THE SECOND FORM's CARD OF 'pendulumlaw4.JourMany'. -/
def jourManyUptoCard : Claim7 := { stood := { row := jourManyUptoRow, standIns := [], harness := (true, "66538d9e0ecc2bdcd85cbd563b0fd36a3a40b700ccb26ecc0eb9f4ecf105693d"), looks := true }, kinds := [], alts := [], laidByText := true, laidKinds := [.data, .data, .data, .sentinel, .sentinel, .sentinel, .sentinel, .sentinel, .sentinel, .sentinel, .sentinel, .sentinel, .sentinel, .sentinel, .sentinel, .sentinel, .sentinel, .sentinel, .sentinel, .sentinel, .sentinel, .sentinel, .sentinel, .sentinel], laidTests := true, laidLooks := .later }
def JourManyUptoCardSaid : Prop := Claim7.holds Tryz.pinned (.plain (OpenSpec.upto jourManySpec)) jourManyUptoCard

/-- THE SECOND FORM's CARD OF 'pendulumlaw4.JourLast'. -/
def jourLastUptoCard : Claim7 := { stood := { row := jourLastUptoRow, standIns := [], harness := (true, "66538d9e0ecc2bdcd85cbd563b0fd36a3a40b700ccb26ecc0eb9f4ecf105693d"), looks := true }, kinds := [], alts := [], laidByText := true, laidKinds := [.data, .data, .data, .sentinel, .sentinel, .sentinel, .sentinel, .sentinel, .sentinel], laidTests := true, laidLooks := .later }
def JourLastUptoCardSaid : Prop := Claim7.holds Tryz.pinned (.plain (OpenSpec.upto jourLastSpec)) jourLastUptoCard
end Rows
end Go.Proofs.YthliipenkikefaaGreatDoor
