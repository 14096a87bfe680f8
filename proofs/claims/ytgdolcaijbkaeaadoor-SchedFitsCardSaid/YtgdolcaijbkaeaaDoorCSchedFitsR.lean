/- By a program of this session (cmrow.py): the row of a law, out of its one pure statement and the printed walk. -/
import Derived.Test.YtgdolcaijbkaeaaDoorCmRd
import Derived.Test.YtgdolcaijbkaeaaDoorCSchedFits0
namespace Go.Proofs.YtgdolcaijbkaeaaDoor.Cm
open Go
set_option linter.unusedVariables false
/-- THE ONE PURE STATEMENT of the law. -/
def law18_SchedFits.Pure : Prop := ∀ (a0 : Ty.T (Ty.slice 38 (Ty.pair (Ty.slice 9 Ty.str) (Ty.pair (Ty.int .i64) (Ty.pair Ty.str (Ty.pair (Ty.int .i64) (Ty.pair (Ty.slice 49 (Ty.pair Ty.str (Ty.pair (Ty.int .i64) (Ty.int .i64)))) (Ty.pair (Ty.slice 53 (Ty.pair Ty.str Ty.bool)) (Ty.pair Ty.str (Ty.pair Ty.str Ty.str)))))))))) (a1 : Ty.T (Ty.int .i64)), Good P (Ty.slice 38 (Ty.pair (Ty.slice 9 Ty.str) (Ty.pair (Ty.int .i64) (Ty.pair Ty.str (Ty.pair (Ty.int .i64) (Ty.pair (Ty.slice 49 (Ty.pair Ty.str (Ty.pair (Ty.int .i64) (Ty.int .i64)))) (Ty.pair (Ty.slice 53 (Ty.pair Ty.str Ty.bool)) (Ty.pair Ty.str (Ty.pair Ty.str Ty.str))))))))) a0 → Good P (Ty.int .i64) a1 → ∃ n, law18_SchedFits n ⟨⟨a0, a1, ⟨⟩⟩, ⟨⟩⟩ = some ((true, ()), ())
end Go.Proofs.YtgdolcaijbkaeaaDoor.Cm
