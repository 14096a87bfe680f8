/-
  DERIVED. GIVEN WITH THE SEED: THE CARDS: each row of YthllmcijlhlimaaGreatDoorRows.lean that lists a variable, with what it lists TIED to the program's text (the seventh form; the later family's looks); each row that meets fmt, with fmt's text TOLD by the authors' own Lean function (tested against real Go, not proved from fmt's source: count such statements apart). THE CARD IS WHAT COUNTS. Prove the row's statement (the work); the ties are given (YthllmcijlhlimaaGreatDoorTie.lean); close each card by the builder's one call (the guide's Derived/Test/ToyasCard.lean, 'card_holds'). Laid BY PROGRAM, IN A SANDBOX (cutbox-door.mjs). By AI agents, Wed Nov 11 2026. No macro, syntax, notation, axiom, sorry.
-/
import Derived.Test.YthllmcijlhlimaaGreatDoorRows
import GoSem.ClaimSeven
namespace Go.Proofs.YthllmcijlhlimaaGreatDoor
namespace Rows

/-- THE TIED CARD OF 'pendulumlaw21.CodeLoads'. -/
def codeLoadsCard : Claim7 := { stood := { row := codeLoadsRow, standIns := [], harness := (true, "7e11544c211152b75578952239ac90762b0f463ae9baf14bf4c31213321f0623"), looks := true }, kinds := [], alts := [], laidByText := true, laidKinds := [.data, .data, .data, .sentinel, .sentinel, .sentinel, .sentinel, .sentinel, .sentinel, .sentinel, .sentinel, .sentinel, .sentinel, .sentinel, .sentinel, .sentinel, .sentinel, .sentinel, .sentinel, .sentinel, .sentinel, .sentinel, .sentinel, .sentinel], laidTests := true, laidLooks := .later }
def CodeLoadsCardSaid : Prop := Claim7.holds Tryz.pinned (.plain (OpenSpec.ofChange codeLoadsSpec)) codeLoadsCard

/-- THE SECOND FORM's CARD OF 'pendulumlaw21.CodeLoads'. -/
def codeLoadsUptoCard : Claim7 := { stood := { row := codeLoadsUptoRow, standIns := [], harness := (true, "7e11544c211152b75578952239ac90762b0f463ae9baf14bf4c31213321f0623"), looks := true }, kinds := [], alts := [], laidByText := true, laidKinds := [.data, .data, .data, .sentinel, .sentinel, .sentinel, .sentinel, .sentinel, .sentinel, .sentinel, .sentinel, .sentinel, .sentinel, .sentinel, .sentinel, .sentinel, .sentinel, .sentinel, .sentinel, .sentinel, .sentinel, .sentinel, .sentinel, .sentinel], laidTests := true, laidLooks := .later }
def CodeLoadsUptoCardSaid : Prop := Claim7.holds Tryz.pinned (.plain (OpenSpec.upto codeLoadsSpec)) codeLoadsUptoCard
end Rows
end Go.Proofs.YthllmcijlhlimaaGreatDoor
