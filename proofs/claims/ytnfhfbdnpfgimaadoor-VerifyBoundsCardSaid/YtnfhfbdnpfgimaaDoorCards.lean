/-
  DERIVED. GIVEN WITH THE SEED: THE CARDS: each row of YtnfhfbdnpfgimaaDoorRows.lean that lists a variable, with what it lists TIED to the program's text (the seventh form; the later family's looks); each row that meets fmt, with fmt's text TOLD by the authors' own Lean function (tested against real Go, not proved from fmt's source: count such statements apart). THE CARD IS WHAT COUNTS. Prove the row's statement (the work); the ties are given (YtnfhfbdnpfgimaaDoorTie.lean); close each card by the builder's one call (the guide's Derived/Test/ToyasCard.lean, 'card_holds'). Laid BY PROGRAM, IN A SANDBOX (cutbox-door.mjs). By AI agents, Wed Nov 11 2026. No macro, syntax, notation, axiom, sorry.
-/
import Derived.Test.YtnfhfbdnpfgimaaDoorRows
import GoSem.ClaimSeven
namespace Go.Proofs.YtnfhfbdnpfgimaaDoor
namespace Rows

/-- THE TIED CARD OF 'pendulumlaw22.VerifyBounds'. -/
def verifyBoundsCard : Claim7 := { stood := { row := verifyBoundsRow, standIns := [], harness := (true, "4d4b370ab71c6a1c043aaa9e66032d524d548b22ac6e3cf55cec6474bb18edf0"), looks := true }, kinds := [], alts := [], laidByText := true, laidKinds := [.sentinel, .sentinel, .sentinel, .sentinel, .sentinel, .sentinel, .sentinel, .sentinel, .sentinel, .sentinel, .sentinel, .sentinel, .sentinel, .sentinel, .sentinel, .sentinel, .sentinel, .sentinel, .sentinel, .sentinel, .sentinel], laidTests := true, laidLooks := .later }
def VerifyBoundsCardSaid : Prop := Claim7.holds Tryd.pinned (.plain (OpenSpec.ofChange verifyBoundsSpec)) verifyBoundsCard

/-- THE TIED CARD OF 'pendulumlaw22.VerifyAhead'. -/
def verifyAheadCard : Claim7 := { stood := { row := verifyAheadRow, standIns := [], harness := (true, "4d4b370ab71c6a1c043aaa9e66032d524d548b22ac6e3cf55cec6474bb18edf0"), looks := true }, kinds := [], alts := [], laidByText := true, laidKinds := [.sentinel, .sentinel, .sentinel, .sentinel, .sentinel, .sentinel, .sentinel, .sentinel, .sentinel, .sentinel, .sentinel, .sentinel, .sentinel, .sentinel, .sentinel, .sentinel, .sentinel, .sentinel, .sentinel, .sentinel, .sentinel], laidTests := true, laidLooks := .later }
def VerifyAheadCardSaid : Prop := Claim7.holds Tryd.pinned (.plain (OpenSpec.ofChange verifyAheadSpec)) verifyAheadCard

/-- THE TIED CARD OF 'pendulumlaw22.VerifyWhole'. -/
def verifyWholeCard : Claim7 := { stood := { row := verifyWholeRow, standIns := [], harness := (true, "4d4b370ab71c6a1c043aaa9e66032d524d548b22ac6e3cf55cec6474bb18edf0"), looks := true }, kinds := [], alts := [], laidByText := true, laidKinds := [.sentinel, .sentinel, .sentinel, .sentinel, .sentinel, .sentinel, .sentinel, .sentinel, .sentinel, .sentinel, .sentinel, .sentinel, .sentinel, .sentinel, .sentinel, .sentinel, .sentinel, .sentinel, .sentinel, .sentinel, .sentinel], laidTests := true, laidLooks := .later }
def VerifyWholeCardSaid : Prop := Claim7.holds Tryd.pinned (.plain (OpenSpec.ofChange verifyWholeSpec)) verifyWholeCard

/-- THE TIED CARD OF 'pendulumlaw22.VerifyEnds'. -/
def verifyEndsCard : Claim7 := { stood := { row := verifyEndsRow, standIns := [], harness := (true, "4d4b370ab71c6a1c043aaa9e66032d524d548b22ac6e3cf55cec6474bb18edf0"), looks := true }, kinds := [], alts := [], laidByText := true, laidKinds := [.sentinel, .sentinel, .sentinel, .sentinel, .sentinel, .sentinel, .sentinel, .sentinel, .sentinel, .sentinel, .sentinel, .sentinel, .sentinel, .sentinel, .sentinel, .sentinel, .sentinel, .sentinel, .sentinel, .sentinel, .sentinel], laidTests := true, laidLooks := .later }
def VerifyEndsCardSaid : Prop := Claim7.holds Tryd.pinned (.plain (OpenSpec.ofChange verifyEndsSpec)) verifyEndsCard

/-- THE TIED CARD OF 'pendulumlaw22.VerifyAll'. -/
def verifyAllCard : Claim7 := { stood := { row := verifyAllRow, standIns := [], harness := (true, "4d4b370ab71c6a1c043aaa9e66032d524d548b22ac6e3cf55cec6474bb18edf0"), looks := true }, kinds := [], alts := [], laidByText := true, laidKinds := [.data, .data, .data, .sentinel, .sentinel, .sentinel, .sentinel, .sentinel, .sentinel, .sentinel, .sentinel, .sentinel, .sentinel, .sentinel, .sentinel, .sentinel, .sentinel, .sentinel, .sentinel, .sentinel, .sentinel, .sentinel, .sentinel, .sentinel], laidTests := true, laidLooks := .later }
def VerifyAllCardSaid : Prop := Claim7.holds Tryd.pinned (.plain (OpenSpec.ofChange verifyAllSpec)) verifyAllCard

/-- THE SECOND FORM's CARD OF 'pendulumlaw22.VerifyBounds'. -/
def verifyBoundsUptoCard : Claim7 := { stood := { row := verifyBoundsUptoRow, standIns := [], harness := (true, "4d4b370ab71c6a1c043aaa9e66032d524d548b22ac6e3cf55cec6474bb18edf0"), looks := true }, kinds := [], alts := [], laidByText := true, laidKinds := [.sentinel, .sentinel, .sentinel, .sentinel, .sentinel, .sentinel, .sentinel, .sentinel, .sentinel, .sentinel, .sentinel, .sentinel, .sentinel, .sentinel, .sentinel, .sentinel, .sentinel, .sentinel, .sentinel, .sentinel, .sentinel], laidTests := true, laidLooks := .later }
def VerifyBoundsUptoCardSaid : Prop := Claim7.holds Tryd.pinned (.plain (OpenSpec.upto verifyBoundsSpec)) verifyBoundsUptoCard

/-- THE SECOND FORM's CARD OF 'pendulumlaw22.VerifyAhead'. -/
def verifyAheadUptoCard : Claim7 := { stood := { row := verifyAheadUptoRow, standIns := [], harness := (true, "4d4b370ab71c6a1c043aaa9e66032d524d548b22ac6e3cf55cec6474bb18edf0"), looks := true }, kinds := [], alts := [], laidByText := true, laidKinds := [.sentinel, .sentinel, .sentinel, .sentinel, .sentinel, .sentinel, .sentinel, .sentinel, .sentinel, .sentinel, .sentinel, .sentinel, .sentinel, .sentinel, .sentinel, .sentinel, .sentinel, .sentinel, .sentinel, .sentinel, .sentinel], laidTests := true, laidLooks := .later }
def VerifyAheadUptoCardSaid : Prop := Claim7.holds Tryd.pinned (.plain (OpenSpec.upto verifyAheadSpec)) verifyAheadUptoCard

/-- THE SECOND FORM's CARD OF 'pendulumlaw22.VerifyWhole'. -/
def verifyWholeUptoCard : Claim7 := { stood := { row := verifyWholeUptoRow, standIns := [], harness := (true, "4d4b370ab71c6a1c043aaa9e66032d524d548b22ac6e3cf55cec6474bb18edf0"), looks := true }, kinds := [], alts := [], laidByText := true, laidKinds := [.sentinel, .sentinel, .sentinel, .sentinel, .sentinel, .sentinel, .sentinel, .sentinel, .sentinel, .sentinel, .sentinel, .sentinel, .sentinel, .sentinel, .sentinel, .sentinel, .sentinel, .sentinel, .sentinel, .sentinel, .sentinel], laidTests := true, laidLooks := .later }
def VerifyWholeUptoCardSaid : Prop := Claim7.holds Tryd.pinned (.plain (OpenSpec.upto verifyWholeSpec)) verifyWholeUptoCard

/-- THE SECOND FORM's CARD OF 'pendulumlaw22.VerifyEnds'. -/
def verifyEndsUptoCard : Claim7 := { stood := { row := verifyEndsUptoRow, standIns := [], harness := (true, "4d4b370ab71c6a1c043aaa9e66032d524d548b22ac6e3cf55cec6474bb18edf0"), looks := true }, kinds := [], alts := [], laidByText := true, laidKinds := [.sentinel, .sentinel, .sentinel, .sentinel, .sentinel, .sentinel, .sentinel, .sentinel, .sentinel, .sentinel, .sentinel, .sentinel, .sentinel, .sentinel, .sentinel, .sentinel, .sentinel, .sentinel, .sentinel, .sentinel, .sentinel], laidTests := true, laidLooks := .later }
def VerifyEndsUptoCardSaid : Prop := Claim7.holds Tryd.pinned (.plain (OpenSpec.upto verifyEndsSpec)) verifyEndsUptoCard

/-- THE SECOND FORM's CARD OF 'pendulumlaw22.VerifyAll'. -/
def verifyAllUptoCard : Claim7 := { stood := { row := verifyAllUptoRow, standIns := [], harness := (true, "4d4b370ab71c6a1c043aaa9e66032d524d548b22ac6e3cf55cec6474bb18edf0"), looks := true }, kinds := [], alts := [], laidByText := true, laidKinds := [.data, .data, .data, .sentinel, .sentinel, .sentinel, .sentinel, .sentinel, .sentinel, .sentinel, .sentinel, .sentinel, .sentinel, .sentinel, .sentinel, .sentinel, .sentinel, .sentinel, .sentinel, .sentinel, .sentinel, .sentinel, .sentinel, .sentinel], laidTests := true, laidLooks := .later }
def VerifyAllUptoCardSaid : Prop := Claim7.holds Tryd.pinned (.plain (OpenSpec.upto verifyAllSpec)) verifyAllUptoCard
end Rows
end Go.Proofs.YtnfhfbdnpfgimaaDoor
