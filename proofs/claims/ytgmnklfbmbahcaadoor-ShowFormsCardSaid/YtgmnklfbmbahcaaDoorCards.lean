/-
  DERIVED. GIVEN WITH THE SEED: THE CARDS: each row of YtgmnklfbmbahcaaDoorRows.lean that lists a variable, with what it lists TIED to the program's text (the seventh form; the later family's looks); each row that meets fmt, with fmt's text TOLD by the authors' own Lean function (tested against real Go, not proved from fmt's source: count such statements apart). THE CARD IS WHAT COUNTS. Prove the row's statement (the work); the ties are given (YtgmnklfbmbahcaaDoorTie.lean); close each card by the builder's one call (the guide's Derived/Test/ToyasCard.lean, 'card_holds'). Laid BY PROGRAM, IN A SANDBOX (cutbox-door.mjs). By AI agents, Wed Nov 11 2026. No macro, syntax, notation, axiom, sorry.
-/
import Derived.Test.YtgmnklfbmbahcaaDoorRows
import GoSem.ClaimSeven
namespace Go.Proofs.YtgmnklfbmbahcaaDoor
namespace Rows

/-- THE TIED CARD OF 'pendulumlaw8.ShowBrackets'. -/
def showBracketsCard : Claim7 := { stood := { row := showBracketsRow, standIns := [], harness := (true, "703608ffbb4b520401e61f8b87089a13a9ace79f02fbeab32f02f9240c8997ef"), looks := false }, kinds := [], alts := [], laidByText := true, laidKinds := [.data, .data, .data], laidTests := true, laidLooks := .later }
def ShowBracketsCardSaid : Prop := Claim7.holds Tryd.pinned (.plain (OpenSpec.ofChange showBracketsSpec)) showBracketsCard

/-- THE TIED CARD OF 'pendulumlaw8.ShowForms'. -/
def showFormsCard : Claim7 := { stood := { row := showFormsRow, standIns := [], harness := (true, "703608ffbb4b520401e61f8b87089a13a9ace79f02fbeab32f02f9240c8997ef"), looks := false }, kinds := [], alts := [], laidByText := true, laidKinds := [.data, .data, .data], laidTests := true, laidLooks := .later }
def ShowFormsCardSaid : Prop := Claim7.holds Tryd.pinned (.plain (OpenSpec.ofChange showFormsSpec)) showFormsCard

/-- THE TIED CARD OF 'pendulumlaw8.ShowSays'. -/
def showSaysCard : Claim7 := { stood := { row := showSaysRow, standIns := [], harness := (true, "703608ffbb4b520401e61f8b87089a13a9ace79f02fbeab32f02f9240c8997ef"), looks := false }, kinds := [], alts := [], laidByText := true, laidKinds := [.data, .data, .data], laidTests := true, laidLooks := .later }
def ShowSaysCardSaid : Prop := Claim7.holds Tryd.pinned (.plain (OpenSpec.ofChange showSaysSpec)) showSaysCard

/-- THE TIED CARD OF 'pendulumlaw8.ShowLines'. -/
def showLinesCard : Claim7 := { stood := { row := showLinesRow, standIns := [], harness := (true, "703608ffbb4b520401e61f8b87089a13a9ace79f02fbeab32f02f9240c8997ef"), looks := false }, kinds := [], alts := [], laidByText := true, laidKinds := [.data, .data, .data], laidTests := true, laidLooks := .later }
def ShowLinesCardSaid : Prop := Claim7.holds Tryd.pinned (.plain (OpenSpec.ofChange showLinesSpec)) showLinesCard

/-- THE SECOND FORM's CARD OF 'pendulumlaw8.ShowBrackets'. -/
def showBracketsUptoCard : Claim7 := { stood := { row := showBracketsUptoRow, standIns := [], harness := (true, "703608ffbb4b520401e61f8b87089a13a9ace79f02fbeab32f02f9240c8997ef"), looks := false }, kinds := [], alts := [], laidByText := true, laidKinds := [.data, .data, .data], laidTests := true, laidLooks := .later }
def ShowBracketsUptoCardSaid : Prop := Claim7.holds Tryd.pinned (.plain (OpenSpec.upto showBracketsSpec)) showBracketsUptoCard

/-- THE SECOND FORM's CARD OF 'pendulumlaw8.ShowForms'. -/
def showFormsUptoCard : Claim7 := { stood := { row := showFormsUptoRow, standIns := [], harness := (true, "703608ffbb4b520401e61f8b87089a13a9ace79f02fbeab32f02f9240c8997ef"), looks := false }, kinds := [], alts := [], laidByText := true, laidKinds := [.data, .data, .data], laidTests := true, laidLooks := .later }
def ShowFormsUptoCardSaid : Prop := Claim7.holds Tryd.pinned (.plain (OpenSpec.upto showFormsSpec)) showFormsUptoCard

/-- THE SECOND FORM's CARD OF 'pendulumlaw8.ShowSays'. -/
def showSaysUptoCard : Claim7 := { stood := { row := showSaysUptoRow, standIns := [], harness := (true, "703608ffbb4b520401e61f8b87089a13a9ace79f02fbeab32f02f9240c8997ef"), looks := false }, kinds := [], alts := [], laidByText := true, laidKinds := [.data, .data, .data], laidTests := true, laidLooks := .later }
def ShowSaysUptoCardSaid : Prop := Claim7.holds Tryd.pinned (.plain (OpenSpec.upto showSaysSpec)) showSaysUptoCard

/-- THE SECOND FORM's CARD OF 'pendulumlaw8.ShowLines'. -/
def showLinesUptoCard : Claim7 := { stood := { row := showLinesUptoRow, standIns := [], harness := (true, "703608ffbb4b520401e61f8b87089a13a9ace79f02fbeab32f02f9240c8997ef"), looks := false }, kinds := [], alts := [], laidByText := true, laidKinds := [.data, .data, .data], laidTests := true, laidLooks := .later }
def ShowLinesUptoCardSaid : Prop := Claim7.holds Tryd.pinned (.plain (OpenSpec.upto showLinesSpec)) showLinesUptoCard
end Rows
end Go.Proofs.YtgmnklfbmbahcaaDoor
