/- By a program of this session (krow2.py): the row of a law, out of its one pure statement and the printed walk. -/
import Derived.Test.YtpiafijccnbdbaaDoorRd
import Derived.Test.YtpiafijccnbdbaaDoorKTWireTwinsx0
import Derived.Test.YtpiafijccnbdbaaDoorKTWireTwinsx3
import Derived.KernelRfl
namespace Go.Proofs.YtpiafijccnbdbaaDoor.KTWireTwins
open Go.RowKit Go.Proofs.YtpiafijccnbdbaaDoor.Rd Go.Proofs.YtpiafijccnbdbaaDoorW.PrintWords Go.Proofs.YtpiafijccnbdbaaDoorW.PrintLast Go.Proofs.YtpiafijccnbdbaaDoorW.PrintMore
set_option linter.unusedVariables false
/-- THE ONE PURE STATEMENT of each law. -/
def pendulumlaw1_WireTwins.Pure : Prop := ∀ (l0 : (List Int)) (a1 : Int), l0.length * 8 ≤ 140737488351232 → (∀ y ∈ l0, (Lit.int .i64 y).wf = true) → (Lit.int .i64 a1).wf = true → ∃ k, pendulumlaw1_WireTwins.f k l0 a1 = some true
end Go.Proofs.YtpiafijccnbdbaaDoor.KTWireTwins
