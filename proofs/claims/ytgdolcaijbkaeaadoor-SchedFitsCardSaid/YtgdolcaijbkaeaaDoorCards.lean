/-
  DERIVED. GIVEN WITH THE SEED: THE CARDS: each row of YtgdolcaijbkaeaaDoorRows.lean that lists a variable, with what it lists TIED to the program's text (the seventh form; the later family's looks); each row that meets fmt, with fmt's text TOLD by the authors' own Lean function (tested against real Go, not proved from fmt's source: count such statements apart). THE CARD IS WHAT COUNTS. Prove the row's statement (the work); the ties are given (YtgdolcaijbkaeaaDoorTie.lean); close each card by the builder's one call (the guide's Derived/Test/ToyasCard.lean, 'card_holds'). Laid BY PROGRAM, IN A SANDBOX (cutbox-door.mjs). By AI agents, Wed Nov 11 2026. No macro, syntax, notation, axiom, sorry.
-/
import Derived.Test.YtgdolcaijbkaeaaDoorRows
import GoSem.ClaimSeven
namespace Go.Proofs.YtgdolcaijbkaeaaDoor
namespace Rows

/-- THE TIED CARD OF 'pendulumlaw18.SchedFits'. -/
def schedFitsCard : Claim7 := { stood := { row := schedFitsRow, standIns := [], harness := (true, "11eebba2a24b3fb6c65a45be024f7ad37ecacda83c71cb837ecd34152eead41f"), looks := true }, kinds := [], alts := [], laidByText := true, laidKinds := [.sentinel, .sentinel], laidTests := true, laidLooks := .later }
def SchedFitsCardSaid : Prop := Claim7.holds Tryd.pinned (.plain (OpenSpec.ofChange schedFitsSpec)) schedFitsCard

/-- THE TIED CARD OF 'pendulumlaw18.SchedTwice'. -/
def schedTwiceCard : Claim7 := { stood := { row := schedTwiceRow, standIns := [], harness := (true, "11eebba2a24b3fb6c65a45be024f7ad37ecacda83c71cb837ecd34152eead41f"), looks := true }, kinds := [], alts := [], laidByText := true, laidKinds := [.data, .data, .data, .sentinel, .sentinel, .sentinel, .sentinel, .sentinel, .sentinel, .sentinel, .sentinel, .sentinel, .sentinel, .sentinel, .sentinel, .sentinel, .sentinel, .sentinel, .sentinel, .sentinel, .sentinel, .sentinel, .sentinel, .sentinel], laidTests := true, laidLooks := .later }
def SchedTwiceCardSaid : Prop := Claim7.holds Tryd.pinned (.plain (OpenSpec.ofChange schedTwiceSpec)) schedTwiceCard

/-- THE SECOND FORM's CARD OF 'pendulumlaw18.SchedFits'. -/
def schedFitsUptoCard : Claim7 := { stood := { row := schedFitsUptoRow, standIns := [], harness := (true, "11eebba2a24b3fb6c65a45be024f7ad37ecacda83c71cb837ecd34152eead41f"), looks := true }, kinds := [], alts := [], laidByText := true, laidKinds := [.sentinel, .sentinel], laidTests := true, laidLooks := .later }
def SchedFitsUptoCardSaid : Prop := Claim7.holds Tryd.pinned (.plain (OpenSpec.upto schedFitsSpec)) schedFitsUptoCard

/-- THE SECOND FORM's CARD OF 'pendulumlaw18.SchedTwice'. -/
def schedTwiceUptoCard : Claim7 := { stood := { row := schedTwiceUptoRow, standIns := [], harness := (true, "11eebba2a24b3fb6c65a45be024f7ad37ecacda83c71cb837ecd34152eead41f"), looks := true }, kinds := [], alts := [], laidByText := true, laidKinds := [.data, .data, .data, .sentinel, .sentinel, .sentinel, .sentinel, .sentinel, .sentinel, .sentinel, .sentinel, .sentinel, .sentinel, .sentinel, .sentinel, .sentinel, .sentinel, .sentinel, .sentinel, .sentinel, .sentinel, .sentinel, .sentinel, .sentinel], laidTests := true, laidLooks := .later }
def SchedTwiceUptoCardSaid : Prop := Claim7.holds Tryd.pinned (.plain (OpenSpec.upto schedTwiceSpec)) schedTwiceUptoCard
end Rows
end Go.Proofs.YtgdolcaijbkaeaaDoor
