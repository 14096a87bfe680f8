/-
  DERIVED. GIVEN WITH THE SEED: THE CARDS: each row of YthbbokndogjopaaGreatDoorRows.lean that lists a variable, with what it lists TIED to the program's text (the seventh form; the later family's looks); each row that meets fmt, with fmt's text TOLD by the authors' own Lean function (tested against real Go, not proved from fmt's source: count such statements apart). THE CARD IS WHAT COUNTS. Prove the row's statement (the work); the ties are given (YthbbokndogjopaaGreatDoorTie.lean); close each card by the builder's one call (the guide's Derived/Test/ToyasCard.lean, 'card_holds'). Laid BY PROGRAM, IN A SANDBOX (cutbox-door.mjs). By AI agents, Wed Nov 11 2026. No macro, syntax, notation, axiom, sorry.
-/
import Derived.Test.YthbbokndogjopaaGreatDoorRows
import GoSem.ClaimSeven
namespace Go.Proofs.YthbbokndogjopaaGreatDoor
namespace Rows

/-- THE TIED CARD OF 'pendulumlaw4.JourFalls'. -/
def jourFallsCard : Claim7 := { stood := { row := jourFallsRow, standIns := [], harness := (true, "bb8db166b230adbd74002bae798d6f0c1023fde494c4910599cb0ac9afc775e0"), looks := true }, kinds := [], alts := [], laidByText := true, laidKinds := [.sentinel, .sentinel, .sentinel, .sentinel, .sentinel, .sentinel, .sentinel, .sentinel, .sentinel, .sentinel, .sentinel, .sentinel, .sentinel, .sentinel, .sentinel, .sentinel, .sentinel, .sentinel, .sentinel, .sentinel, .sentinel], laidTests := true, laidLooks := .later }
def JourFallsCardSaid : Prop := Claim7.holds Tryz.pinned (.plain (OpenSpec.ofChange jourFallsSpec)) jourFallsCard

/-- THE TIED CARD OF 'pendulumlaw4.JourWhole'. -/
def jourWholeCard : Claim7 := { stood := { row := jourWholeRow, standIns := [], harness := (true, "bb8db166b230adbd74002bae798d6f0c1023fde494c4910599cb0ac9afc775e0"), looks := true }, kinds := [], alts := [], laidByText := true, laidKinds := [.data, .data, .data, .sentinel, .sentinel, .sentinel, .sentinel, .sentinel, .sentinel], laidTests := true, laidLooks := .later }
def JourWholeCardSaid : Prop := Claim7.holds Tryz.pinned (.plain (OpenSpec.ofChange jourWholeSpec)) jourWholeCard

/-- THE SECOND FORM's CARD OF 'pendulumlaw4.JourFalls'. -/
def jourFallsUptoCard : Claim7 := { stood := { row := jourFallsUptoRow, standIns := [], harness := (true, "bb8db166b230adbd74002bae798d6f0c1023fde494c4910599cb0ac9afc775e0"), looks := true }, kinds := [], alts := [], laidByText := true, laidKinds := [.sentinel, .sentinel, .sentinel, .sentinel, .sentinel, .sentinel, .sentinel, .sentinel, .sentinel, .sentinel, .sentinel, .sentinel, .sentinel, .sentinel, .sentinel, .sentinel, .sentinel, .sentinel, .sentinel, .sentinel, .sentinel], laidTests := true, laidLooks := .later }
def JourFallsUptoCardSaid : Prop := Claim7.holds Tryz.pinned (.plain (OpenSpec.upto jourFallsSpec)) jourFallsUptoCard

/-- THE SECOND FORM's CARD OF 'pendulumlaw4.JourWhole'. -/
def jourWholeUptoCard : Claim7 := { stood := { row := jourWholeUptoRow, standIns := [], harness := (true, "bb8db166b230adbd74002bae798d6f0c1023fde494c4910599cb0ac9afc775e0"), looks := true }, kinds := [], alts := [], laidByText := true, laidKinds := [.data, .data, .data, .sentinel, .sentinel, .sentinel, .sentinel, .sentinel, .sentinel], laidTests := true, laidLooks := .later }
def JourWholeUptoCardSaid : Prop := Claim7.holds Tryz.pinned (.plain (OpenSpec.upto jourWholeSpec)) jourWholeUptoCard
end Rows
end Go.Proofs.YthbbokndogjopaaGreatDoor
