/-
  DERIVED. GIVEN WITH THE SEED: THE CARDS: each row of YtkmeghmhgbbmhaaDoorRows.lean that lists a variable, with what it lists TIED to the program's text (the seventh form; the later family's looks); each row that meets fmt, with fmt's text TOLD by the authors' own Lean function (tested against real Go, not proved from fmt's source: count such statements apart). THE CARD IS WHAT COUNTS. Prove the row's statement (the work); the ties are given (YtkmeghmhgbbmhaaDoorTie.lean); close each card by the builder's one call (the guide's Derived/Test/ToyasCard.lean, 'card_holds'). Laid BY PROGRAM, IN A SANDBOX (cutbox-door.mjs). By AI agents, Wed Nov 11 2026. No macro, syntax, notation, axiom, sorry.
-/
import Derived.Test.YtkmeghmhgbbmhaaDoorRows
import GoSem.ClaimSeven
namespace Go.Proofs.YtkmeghmhgbbmhaaDoor
namespace Rows

/-- THE TIED CARD OF 'pendulumlaw24.DepsRings'. -/
def depsRingsCard : Claim7 := { stood := { row := depsRingsRow, standIns := [], harness := (true, "5abd5c9e49386a688a34f2b8f3359804612fecfaf36d53c15736e45cc2dbc59f"), looks := true }, kinds := [], alts := [], laidByText := true, laidKinds := [.data, .data, .data, .sentinel, .sentinel, .sentinel, .sentinel, .sentinel, .sentinel, .sentinel, .sentinel, .sentinel, .sentinel, .sentinel, .sentinel, .sentinel, .sentinel, .sentinel, .sentinel, .sentinel, .sentinel, .sentinel, .sentinel, .sentinel], laidTests := true, laidLooks := .later }
def DepsRingsCardSaid : Prop := Claim7.holds Tryd.pinned (.plain (OpenSpec.ofChange depsRingsSpec)) depsRingsCard

/-- THE TIED CARD OF 'pendulumlaw24.DepsDepth'. -/
def depsDepthCard : Claim7 := { stood := { row := depsDepthRow, standIns := [], harness := (true, "5abd5c9e49386a688a34f2b8f3359804612fecfaf36d53c15736e45cc2dbc59f"), looks := true }, kinds := [], alts := [], laidByText := true, laidKinds := [.data, .data, .data, .sentinel, .sentinel, .sentinel, .sentinel], laidTests := true, laidLooks := .later }
def DepsDepthCardSaid : Prop := Claim7.holds Tryd.pinned (.plain (OpenSpec.ofChange depsDepthSpec)) depsDepthCard

/-- THE TIED CARD OF 'pendulumlaw24.DepsFits'. -/
def depsFitsCard : Claim7 := { stood := { row := depsFitsRow, standIns := [], harness := (true, "5abd5c9e49386a688a34f2b8f3359804612fecfaf36d53c15736e45cc2dbc59f"), looks := true }, kinds := [], alts := [], laidByText := true, laidKinds := [.data, .data, .data, .sentinel, .sentinel, .sentinel, .sentinel], laidTests := true, laidLooks := .later }
def DepsFitsCardSaid : Prop := Claim7.holds Tryd.pinned (.plain (OpenSpec.ofChange depsFitsSpec)) depsFitsCard

/-- THE SECOND FORM's CARD OF 'pendulumlaw24.DepsRings'. -/
def depsRingsUptoCard : Claim7 := { stood := { row := depsRingsUptoRow, standIns := [], harness := (true, "5abd5c9e49386a688a34f2b8f3359804612fecfaf36d53c15736e45cc2dbc59f"), looks := true }, kinds := [], alts := [], laidByText := true, laidKinds := [.data, .data, .data, .sentinel, .sentinel, .sentinel, .sentinel, .sentinel, .sentinel, .sentinel, .sentinel, .sentinel, .sentinel, .sentinel, .sentinel, .sentinel, .sentinel, .sentinel, .sentinel, .sentinel, .sentinel, .sentinel, .sentinel, .sentinel], laidTests := true, laidLooks := .later }
def DepsRingsUptoCardSaid : Prop := Claim7.holds Tryd.pinned (.plain (OpenSpec.upto depsRingsSpec)) depsRingsUptoCard

/-- THE SECOND FORM's CARD OF 'pendulumlaw24.DepsDepth'. -/
def depsDepthUptoCard : Claim7 := { stood := { row := depsDepthUptoRow, standIns := [], harness := (true, "5abd5c9e49386a688a34f2b8f3359804612fecfaf36d53c15736e45cc2dbc59f"), looks := true }, kinds := [], alts := [], laidByText := true, laidKinds := [.data, .data, .data, .sentinel, .sentinel, .sentinel, .sentinel], laidTests := true, laidLooks := .later }
def DepsDepthUptoCardSaid : Prop := Claim7.holds Tryd.pinned (.plain (OpenSpec.upto depsDepthSpec)) depsDepthUptoCard

/-- THE SECOND FORM's CARD OF 'pendulumlaw24.DepsFits'. -/
def depsFitsUptoCard : Claim7 := { stood := { row := depsFitsUptoRow, standIns := [], harness := (true, "5abd5c9e49386a688a34f2b8f3359804612fecfaf36d53c15736e45cc2dbc59f"), looks := true }, kinds := [], alts := [], laidByText := true, laidKinds := [.data, .data, .data, .sentinel, .sentinel, .sentinel, .sentinel], laidTests := true, laidLooks := .later }
def DepsFitsUptoCardSaid : Prop := Claim7.holds Tryd.pinned (.plain (OpenSpec.upto depsFitsSpec)) depsFitsUptoCard
end Rows
end Go.Proofs.YtkmeghmhgbbmhaaDoor
