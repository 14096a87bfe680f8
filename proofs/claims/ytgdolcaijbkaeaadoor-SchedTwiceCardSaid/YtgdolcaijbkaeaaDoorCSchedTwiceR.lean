/- By a program of this session (cmrow.py): the row of a law, out of its one pure statement and the printed walk. -/
import Derived.Test.YtgdolcaijbkaeaaDoorCmRd
import Derived.Test.YtgdolcaijbkaeaaDoorCSchedTwice0
namespace Go.Proofs.YtgdolcaijbkaeaaDoor.Cm
open Go
set_option linter.unusedVariables false
/-- THE ONE PURE STATEMENT of the law. -/
def law18_SchedTwice.Pure : Prop := ∀ (a0 : Ty.T (Ty.int .i64)) (a1 : Ty.T (Ty.int .i64)) (a2 : Ty.T (Ty.int .i64)), Good P (Ty.int .i64) a0 → Good P (Ty.int .i64) a1 → Good P (Ty.int .i64) a2 → ∃ n, law18_SchedTwice n ⟨⟨a0, a1, a2, ⟨⟩⟩, ⟨⟩⟩ = some ((true, ()), ())
end Go.Proofs.YtgdolcaijbkaeaaDoor.Cm
