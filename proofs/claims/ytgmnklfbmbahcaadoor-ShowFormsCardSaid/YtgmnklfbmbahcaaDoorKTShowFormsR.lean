/- By a program of this session (krow2.py): the row of a law, out of its one pure statement and the printed walk. -/
import Derived.Test.YtgmnklfbmbahcaaDoorRd
import Derived.Test.YtgmnklfbmbahcaaDoorKTShowFormsx0
import Derived.Test.YtgmnklfbmbahcaaDoorKTShowFormsx3
import Derived.KernelRfl
namespace Go.Proofs.YtgmnklfbmbahcaaDoor.KTShowForms
open Go.RowKit Go.Proofs.YtgmnklfbmbahcaaDoor.Rd Go.Proofs.YtgmnklfbmbahcaaDoorW.PrintWords Go.Proofs.YtgmnklfbmbahcaaDoorW.PrintLast Go.Proofs.YtgmnklfbmbahcaaDoorW.PrintMore
set_option linter.unusedVariables false
/-- THE ONE PURE STATEMENT of each law. -/
def pendulumlaw8_ShowForms.Pure : Prop := ∀ (a0 : Int) (a1 : Int), (Lit.int .i64 a0).wf = true → (Lit.int .i64 a1).wf = true → ∃ k, pendulumlaw8_ShowForms.f k a0 a1 = some true
end Go.Proofs.YtgmnklfbmbahcaaDoor.KTShowForms
