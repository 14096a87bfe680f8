/- By a program of this session (krow2.py): the row of a law, out of its one pure statement and the printed walk. -/
import Derived.Test.YtjccbolnjnefiaaDoorRd
import Derived.Test.YtjccbolnjnefiaaDoorKTCodeBoundsx0
import Derived.Test.YtjccbolnjnefiaaDoorKTCodeBoundsx6
import Derived.KernelRfl
namespace Go.Proofs.YtjccbolnjnefiaaDoor.KTCodeBounds
open Go.RowKit Go.Proofs.YtjccbolnjnefiaaDoor.Rd Go.Proofs.YtjccbolnjnefiaaDoorW.PrintWords Go.Proofs.YtjccbolnjnefiaaDoorW.PrintLast Go.Proofs.YtjccbolnjnefiaaDoorW.PrintMore
set_option linter.unusedVariables false
/-- THE ONE PURE STATEMENT of each law. -/
def pendulumlaw21_CodeBounds.Pure : Prop := ∀ (a0 : Int) (a1 : Int) (a2 : Int) (a3 : Int), (Lit.int .i64 a0).wf = true → (Lit.int .i64 a1).wf = true → (Lit.int .i64 a2).wf = true → (Lit.int .i64 a3).wf = true → ∃ k, pendulumlaw21_CodeBounds.f k a0 a1 a2 a3 = some true
end Go.Proofs.YtjccbolnjnefiaaDoor.KTCodeBounds
