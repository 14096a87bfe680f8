/- By a program of this session (cmrow.py): the row of a law, out of its one pure statement and the printed walk. -/
import Derived.Test.YtgpoomkbkckbaaaDoorCmRd
import Derived.Test.YtgpoomkbkckbaaaDoorCDiskPlays1
namespace Go.Proofs.YtgpoomkbkckbaaaDoor.Cm
open Go
set_option linter.unusedVariables false
/-- THE ONE PURE STATEMENT of the law. -/
def law3_DiskPlays.Pure : Prop := ∀ (a0 : Ty.T (Ty.int .i64)) (a1 : Ty.T (Ty.slice 52 (Ty.pair (Ty.int .i64) (Ty.pair (Ty.int .i64) (Ty.pair (Ty.slice 5 (Ty.int .u8)) (Ty.slice 3 (Ty.int .i64))))))), Good P (Ty.int .i64) a0 → Good P (Ty.slice 52 (Ty.pair (Ty.int .i64) (Ty.pair (Ty.int .i64) (Ty.pair (Ty.slice 5 (Ty.int .u8)) (Ty.slice 3 (Ty.int .i64)))))) a1 → ∃ n, law3_DiskPlays n ⟨⟨a0, a1, ⟨⟩⟩, ⟨⟩⟩ = some ((true, ()), ())
end Go.Proofs.YtgpoomkbkckbaaaDoor.Cm
