/- By a program of this session (krow2.py): the row of a law, out of its one pure statement and the printed walk. -/
import Derived.Test.YtpiafijccnbdbaaDoorRd
import Derived.Test.YtpiafijccnbdbaaDoorKTWireRowsx0
import Derived.Test.YtpiafijccnbdbaaDoorKTWireRowsx4
import Derived.KernelRfl
namespace Go.Proofs.YtpiafijccnbdbaaDoor.KTWireRows
open Go.RowKit Go.Proofs.YtpiafijccnbdbaaDoor.Rd Go.Proofs.YtpiafijccnbdbaaDoorW.PrintWords Go.Proofs.YtpiafijccnbdbaaDoorW.PrintLast Go.Proofs.YtpiafijccnbdbaaDoorW.PrintMore
set_option linter.unusedVariables false
/-- THE ONE PURE STATEMENT of each law. -/
def pendulumlaw1_WireRows.Pure : Prop := ∀ (l0 : (List Int)) (a1 : ByteArray) (a2 : Int), l0.length * 8 ≤ 140737488351232 → (∀ y ∈ l0, (Lit.int .i64 y).wf = true) → a1.size ≤ 140737488351232 → (Lit.int .i64 a2).wf = true → ∃ k, pendulumlaw1_WireRows.f k l0 a1 a2 = some true
end Go.Proofs.YtpiafijccnbdbaaDoor.KTWireRows
