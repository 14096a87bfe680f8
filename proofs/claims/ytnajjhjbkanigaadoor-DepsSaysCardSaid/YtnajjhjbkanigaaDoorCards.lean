/-
  DERIVED. GIVEN WITH THE SEED: THE CARDS: each row of YtnajjhjbkanigaaDoorRows.lean that lists a variable, with what it lists TIED to the program's text (the seventh form; the later family's looks); each row that meets fmt, with fmt's text TOLD by the authors' own Lean function (tested against real Go, not proved from fmt's source: count such statements apart). THE CARD IS WHAT COUNTS. Prove the row's statement (the work); the ties are given (YtnajjhjbkanigaaDoorTie.lean); close each card by the builder's one call (the guide's Derived/Test/ToyasCard.lean, 'card_holds'). Laid BY PROGRAM, IN A SANDBOX (cutbox-door.mjs). By AI agents, Wed Nov 11 2026. No macro, syntax, notation, axiom, sorry.
-/
import Derived.Test.YtnajjhjbkanigaaDoorRows
import GoSem.ClaimSeven
namespace Go.Proofs.YtnajjhjbkanigaaDoor
namespace Rows

/-- THE TIED CARD OF 'pendulumlaw8.ShowSays'. -/
def showSaysCard : Claim7 := { stood := { row := showSaysRow, standIns := [], harness := (true, "0fcb4e9bb537a0ffb5fa28cf4e06a56f81e941096c102da1d26135684b83576d"), looks := true }, kinds := [], alts := [], laidByText := true, laidKinds := [.data, .data, .data], laidTests := true, laidLooks := .later }
def ShowSaysCardSaid : Prop := Claim7.holds Tryd.pinned (.plain (OpenSpec.ofChange showSaysSpec)) showSaysCard

/-- THE TIED CARD OF 'pendulumlaw24.DepsTurned'. -/
def depsTurnedCard : Claim7 := { stood := { row := depsTurnedRow, standIns := [], harness := (true, "0fcb4e9bb537a0ffb5fa28cf4e06a56f81e941096c102da1d26135684b83576d"), looks := true }, kinds := [], alts := [], laidByText := true, laidKinds := [.sentinel, .sentinel, .sentinel, .sentinel], laidTests := true, laidLooks := .later }
def DepsTurnedCardSaid : Prop := Claim7.holds Tryd.pinned (.plain (OpenSpec.ofChange depsTurnedSpec)) depsTurnedCard

/-- THE TIED CARD OF 'pendulumlaw24.DepsSays'. -/
def depsSaysCard : Claim7 := { stood := { row := depsSaysRow, standIns := [], harness := (true, "0fcb4e9bb537a0ffb5fa28cf4e06a56f81e941096c102da1d26135684b83576d"), looks := true }, kinds := [], alts := [], laidByText := true, laidKinds := [.sentinel, .sentinel, .sentinel, .sentinel, .sentinel, .sentinel, .sentinel, .sentinel, .sentinel, .sentinel, .sentinel, .sentinel, .sentinel, .sentinel, .sentinel, .sentinel, .sentinel, .sentinel, .sentinel, .sentinel, .sentinel], laidTests := true, laidLooks := .later }
def DepsSaysCardSaid : Prop := Claim7.holds Tryd.pinned (.plain (OpenSpec.ofChange depsSaysSpec)) depsSaysCard

/-- THE SECOND FORM's CARD OF 'pendulumlaw8.ShowSays'. -/
def showSaysUptoCard : Claim7 := { stood := { row := showSaysUptoRow, standIns := [], harness := (true, "0fcb4e9bb537a0ffb5fa28cf4e06a56f81e941096c102da1d26135684b83576d"), looks := true }, kinds := [], alts := [], laidByText := true, laidKinds := [.data, .data, .data], laidTests := true, laidLooks := .later }
def ShowSaysUptoCardSaid : Prop := Claim7.holds Tryd.pinned (.plain (OpenSpec.upto showSaysSpec)) showSaysUptoCard

/-- THE SECOND FORM's CARD OF 'pendulumlaw24.DepsTurned'. -/
def depsTurnedUptoCard : Claim7 := { stood := { row := depsTurnedUptoRow, standIns := [], harness := (true, "0fcb4e9bb537a0ffb5fa28cf4e06a56f81e941096c102da1d26135684b83576d"), looks := true }, kinds := [], alts := [], laidByText := true, laidKinds := [.sentinel, .sentinel, .sentinel, .sentinel], laidTests := true, laidLooks := .later }
def DepsTurnedUptoCardSaid : Prop := Claim7.holds Tryd.pinned (.plain (OpenSpec.upto depsTurnedSpec)) depsTurnedUptoCard

/-- THE SECOND FORM's CARD OF 'pendulumlaw24.DepsSays'. -/
def depsSaysUptoCard : Claim7 := { stood := { row := depsSaysUptoRow, standIns := [], harness := (true, "0fcb4e9bb537a0ffb5fa28cf4e06a56f81e941096c102da1d26135684b83576d"), looks := true }, kinds := [], alts := [], laidByText := true, laidKinds := [.sentinel, .sentinel, .sentinel, .sentinel, .sentinel, .sentinel, .sentinel, .sentinel, .sentinel, .sentinel, .sentinel, .sentinel, .sentinel, .sentinel, .sentinel, .sentinel, .sentinel, .sentinel, .sentinel, .sentinel, .sentinel], laidTests := true, laidLooks := .later }
def DepsSaysUptoCardSaid : Prop := Claim7.holds Tryd.pinned (.plain (OpenSpec.upto depsSaysSpec)) depsSaysUptoCard
end Rows
end Go.Proofs.YtnajjhjbkanigaaDoor
