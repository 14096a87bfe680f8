/- By a program of this session (cmrow.py): the row of a law, out of its one pure statement and the printed walk. -/
import Derived.Test.YtgpoomkbkckbaaaDoorCmRd
import Derived.Test.YtgpoomkbkckbaaaDoorCDiskTwins0
namespace Go.Proofs.YtgpoomkbkckbaaaDoor.Cm
open Go
set_option linter.unusedVariables false
/-- THE ONE PURE STATEMENT of the law. -/
def law3_DiskTwins.Pure : Prop := ∀ (a0 : Ty.T (Ty.slice 5 (Ty.int .u8))) (a1 : Ty.T (Ty.slice 5 (Ty.int .u8))) (a2 : Ty.T Ty.bool), Good P (Ty.slice 5 (Ty.int .u8)) a0 → Good P (Ty.slice 5 (Ty.int .u8)) a1 → Good P Ty.bool a2 → ∃ n, law3_DiskTwins n ⟨⟨a0, a1, a2, ⟨⟩⟩, ⟨⟩⟩ = some ((true, ()), ())
end Go.Proofs.YtgpoomkbkckbaaaDoor.Cm
