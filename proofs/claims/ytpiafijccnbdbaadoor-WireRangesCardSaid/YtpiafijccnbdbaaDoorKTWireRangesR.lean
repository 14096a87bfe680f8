/- By a program of this session (krow2.py): the row of a law, out of its one pure statement and the printed walk. -/
import Derived.Test.YtpiafijccnbdbaaDoorRd
import Derived.Test.YtpiafijccnbdbaaDoorKTWireRangesx0
import Derived.Test.YtpiafijccnbdbaaDoorKTWireRangesx3
import Derived.KernelRfl
namespace Go.Proofs.YtpiafijccnbdbaaDoor.KTWireRanges
open Go.RowKit Go.Proofs.YtpiafijccnbdbaaDoor.Rd Go.Proofs.YtpiafijccnbdbaaDoorW.PrintWords Go.Proofs.YtpiafijccnbdbaaDoorW.PrintLast Go.Proofs.YtpiafijccnbdbaaDoorW.PrintMore
set_option linter.unusedVariables false
/-- THE ONE PURE STATEMENT of each law. -/
def pendulumlaw1_WireRanges.Pure : Prop := ∀ (a0 : Int) (a1 : Int) (a2 : Int) (l3 : (List Int)), (Lit.int .i64 a0).wf = true → (Lit.int .i64 a1).wf = true → (Lit.int .i64 a2).wf = true → l3.length * 1 ≤ 140737488351232 → (∀ y ∈ l3, (Lit.int .u8 y).wf = true) → ∃ k, pendulumlaw1_WireRanges.f k a0 a1 a2 l3 = some true
end Go.Proofs.YtpiafijccnbdbaaDoor.KTWireRanges
