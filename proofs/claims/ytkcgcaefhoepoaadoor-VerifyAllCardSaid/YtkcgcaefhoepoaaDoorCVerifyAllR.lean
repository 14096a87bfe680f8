/- By a program of this session (cmrow.py): the row of a law, out of its one pure statement and the printed walk. -/
import Derived.Test.YtkcgcaefhoepoaaDoorCmRd
import Derived.Test.YtkcgcaefhoepoaaDoorCVerifyAll2
namespace Go.Proofs.YtkcgcaefhoepoaaDoor.Cm
open Go
set_option linter.unusedVariables false
/-- THE ONE PURE STATEMENT of the law. -/
def law22_VerifyAll.Pure : Prop := ∀ (a0 : Ty.T (Ty.int .i64)) (a1 : Ty.T (Ty.int .i64)) (a2 : Ty.T Ty.bool), Good P (Ty.int .i64) a0 → Good P (Ty.int .i64) a1 → Good P Ty.bool a2 → ∃ n, law22_VerifyAll n ⟨⟨a0, a1, a2, ⟨⟩⟩, ⟨⟩⟩ = some ((true, ()), ())
end Go.Proofs.YtkcgcaefhoepoaaDoor.Cm
