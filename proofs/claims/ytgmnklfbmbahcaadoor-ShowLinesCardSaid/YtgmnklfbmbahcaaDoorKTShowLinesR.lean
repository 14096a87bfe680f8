/- By a program of this session (krow2.py): the row of a law, out of its one pure statement and the printed walk. -/
import Derived.Test.YtgmnklfbmbahcaaDoorRd
import Derived.Test.YtgmnklfbmbahcaaDoorKTShowLinesx0
import Derived.Test.YtgmnklfbmbahcaaDoorKTShowLinesx6
import Derived.KernelRfl
namespace Go.Proofs.YtgmnklfbmbahcaaDoor.KTShowLines
open Go.RowKit Go.Proofs.YtgmnklfbmbahcaaDoor.Rd Go.Proofs.YtgmnklfbmbahcaaDoorW.PrintWords Go.Proofs.YtgmnklfbmbahcaaDoorW.PrintLast Go.Proofs.YtgmnklfbmbahcaaDoorW.PrintMore
set_option linter.unusedVariables false
/-- THE ONE PURE STATEMENT of each law. -/
def pendulumlaw8_ShowLines.Pure : Prop := ∀ (a0 : Int) (a1 : Int), (Lit.int .i64 a0).wf = true → (Lit.int .i64 a1).wf = true → ∃ k, pendulumlaw8_ShowLines.f k a0 a1 = some true
end Go.Proofs.YtgmnklfbmbahcaaDoor.KTShowLines
