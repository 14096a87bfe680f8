/- By a program of this session (krow2.py): the row of a law, out of its one pure statement and the printed walk. -/
import Derived.Test.YtpiafijccnbdbaaDoorRd
import Derived.Test.YtpiafijccnbdbaaDoorKTWireFormsx0
import Derived.Test.YtpiafijccnbdbaaDoorKTWireFormsx3
import Derived.KernelRfl
namespace Go.Proofs.YtpiafijccnbdbaaDoor.KTWireForms
open Go.RowKit Go.Proofs.YtpiafijccnbdbaaDoor.Rd Go.Proofs.YtpiafijccnbdbaaDoorW.PrintWords Go.Proofs.YtpiafijccnbdbaaDoorW.PrintLast Go.Proofs.YtpiafijccnbdbaaDoorW.PrintMore
set_option linter.unusedVariables false
/-- THE ONE PURE STATEMENT of each law. -/
def pendulumlaw1_WireForms.Pure : Prop := ∀ (a0 : Int) (a1 : Int), (Lit.int .i64 a0).wf = true → (Lit.int .i64 a1).wf = true → ∃ k, pendulumlaw1_WireForms.f k a0 a1 = some true
end Go.Proofs.YtpiafijccnbdbaaDoor.KTWireForms
