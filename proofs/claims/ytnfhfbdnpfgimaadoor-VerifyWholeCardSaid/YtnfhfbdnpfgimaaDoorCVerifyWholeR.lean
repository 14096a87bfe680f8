/- By a program of this session (cmrow.py): the row of a law, out of its one pure statement and the printed walk. -/
import Derived.Test.YtnfhfbdnpfgimaaDoorCmRd
import Derived.Test.YtnfhfbdnpfgimaaDoorCVerifyWhole0
namespace Go.Proofs.YtnfhfbdnpfgimaaDoor.Cm
open Go
set_option linter.unusedVariables false
/-- THE ONE PURE STATEMENT of the law. -/
def law22_VerifyWhole.Pure : Prop := ∀ (a0 : Ty.T (Ty.int .i64)), Good P (Ty.int .i64) a0 → ∃ n, law22_VerifyWhole n ⟨⟨a0, ⟨⟩⟩, ⟨⟩⟩ = some ((true, ()), ())
end Go.Proofs.YtnfhfbdnpfgimaaDoor.Cm
