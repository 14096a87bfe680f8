/- By a program of this session (krow2.py): the row of a law, out of its one pure statement and the printed walk. -/
import Derived.Test.YtpiafijccnbdbaaDoorRd
import Derived.Test.YtpiafijccnbdbaaDoorKTWireLengthsx0
import Derived.Test.YtpiafijccnbdbaaDoorKTWireLengthsx3
import Derived.KernelRfl
namespace Go.Proofs.YtpiafijccnbdbaaDoor.KTWireLengths
open Go.RowKit Go.Proofs.YtpiafijccnbdbaaDoor.Rd Go.Proofs.YtpiafijccnbdbaaDoorW.PrintWords Go.Proofs.YtpiafijccnbdbaaDoorW.PrintLast Go.Proofs.YtpiafijccnbdbaaDoorW.PrintMore
set_option linter.unusedVariables false
/-- THE ONE PURE STATEMENT of each law. -/
def pendulumlaw1_WireLengths.Pure : Prop := ∀ (a0 : Int) (a1 : Int), (Lit.int .i64 a0).wf = true → (Lit.int .i64 a1).wf = true → ∃ k, pendulumlaw1_WireLengths.f k a0 a1 = some true
end Go.Proofs.YtpiafijccnbdbaaDoor.KTWireLengths
