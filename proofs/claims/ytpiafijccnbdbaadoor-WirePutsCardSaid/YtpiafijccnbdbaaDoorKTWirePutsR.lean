/- By a program of this session (krow2.py): the row of a law, out of its one pure statement and the printed walk. -/
import Derived.Test.YtpiafijccnbdbaaDoorRd
import Derived.Test.YtpiafijccnbdbaaDoorKTWirePutsx0
import Derived.Test.YtpiafijccnbdbaaDoorKTWirePutsx3
import Derived.KernelRfl
namespace Go.Proofs.YtpiafijccnbdbaaDoor.KTWirePuts
open Go.RowKit Go.Proofs.YtpiafijccnbdbaaDoor.Rd Go.Proofs.YtpiafijccnbdbaaDoorW.PrintWords Go.Proofs.YtpiafijccnbdbaaDoorW.PrintLast Go.Proofs.YtpiafijccnbdbaaDoorW.PrintMore
set_option linter.unusedVariables false
/-- THE ONE PURE STATEMENT of each law. -/
def pendulumlaw1_WirePuts.Pure : Prop := ∀ (l0 : (List Int)) (a1 : Int) (a2 : ByteArray), l0.length * 1 ≤ 140737488351232 → (∀ y ∈ l0, (Lit.int .u8 y).wf = true) → (Lit.int .i64 a1).wf = true → a2.size ≤ 140737488351232 → ∃ k, pendulumlaw1_WirePuts.f k l0 a1 a2 = some true
end Go.Proofs.YtpiafijccnbdbaaDoor.KTWirePuts
