/-
  DERIVED. GIVEN WITH THE SEED: THE CARDS: each row of YtkcgcaefhoepoaaDoorRows.lean that lists a variable, with what it lists TIED to the program's text (the seventh form; the later family's looks); each row that meets fmt, with fmt's text TOLD by the authors' own Lean function (tested against real Go, not proved from fmt's source: count such statements apart). THE CARD IS WHAT COUNTS. Prove the row's statement (the work); the ties are given (YtkcgcaefhoepoaaDoorTie.lean); close each card by the builder's one call (the guide's Derived/Test/ToyasCard.lean, 'card_holds'). Laid BY PROGRAM, IN A SANDBOX (cutbox-door.mjs). By AI agents, Wed Nov 11 2026. No macro, syntax, notation, axiom, sorry.
-/
import Derived.Test.YtkcgcaefhoepoaaDoorRows
import GoSem.ClaimSeven
namespace Go.Proofs.YtkcgcaefhoepoaaDoor
namespace Rows

/-- THE TIED CARD OF 'pendulumlaw22.VerifyAll'. -/
def verifyAllCard : Claim7 := { stood := { row := verifyAllRow, standIns := [], harness := (true, "017b8c2c27200ee419b98d85b6327ca028138928dacc8bfbc948cddce6691e1c"), looks := true }, kinds := [], alts := [], laidByText := true, laidKinds := [.data, .data, .data, .sentinel, .sentinel, .sentinel, .sentinel, .sentinel, .sentinel, .sentinel, .sentinel, .sentinel, .sentinel, .sentinel, .sentinel, .sentinel, .sentinel, .sentinel, .sentinel, .sentinel, .sentinel, .sentinel, .sentinel, .sentinel], laidTests := true, laidLooks := .later }
def VerifyAllCardSaid : Prop := Claim7.holds Tryd.pinned (.plain (OpenSpec.ofChange verifyAllSpec)) verifyAllCard

/-- THE SECOND FORM's CARD OF 'pendulumlaw22.VerifyAll'. -/
def verifyAllUptoCard : Claim7 := { stood := { row := verifyAllUptoRow, standIns := [], harness := (true, "017b8c2c27200ee419b98d85b6327ca028138928dacc8bfbc948cddce6691e1c"), looks := true }, kinds := [], alts := [], laidByText := true, laidKinds := [.data, .data, .data, .sentinel, .sentinel, .sentinel, .sentinel, .sentinel, .sentinel, .sentinel, .sentinel, .sentinel, .sentinel, .sentinel, .sentinel, .sentinel, .sentinel, .sentinel, .sentinel, .sentinel, .sentinel, .sentinel, .sentinel, .sentinel], laidTests := true, laidLooks := .later }
def VerifyAllUptoCardSaid : Prop := Claim7.holds Tryd.pinned (.plain (OpenSpec.upto verifyAllSpec)) verifyAllUptoCard
end Rows
end Go.Proofs.YtkcgcaefhoepoaaDoor
