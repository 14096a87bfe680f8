/- By a program of this session (cmrow.py): the row of a law, out of its one pure statement and the printed walk. -/
import Derived.Test.YthbbokndogjopaaGreatDoorCmRd
import Derived.Test.YthbbokndogjopaaGreatDoorCJourWhole1
namespace Go.Proofs.YthbbokndogjopaaGreatDoor.Cm
open Go
set_option linter.unusedVariables false
/-- THE ONE PURE STATEMENT of the law. -/
def law4_JourWhole.Pure : Prop := ∀ (a0 : Ty.T (Ty.int .i64)) (a1 : Ty.T (Ty.int .i64)) (a2 : Ty.T (Ty.slice 3 (Ty.int .i64))) (a3 : Ty.T (Ty.int .i64)), Good P (Ty.int .i64) a0 → Good P (Ty.int .i64) a1 → Good P (Ty.slice 3 (Ty.int .i64)) a2 → Good P (Ty.int .i64) a3 → ∃ n, law4_JourWhole n ⟨⟨a0, a1, a2, a3, ⟨⟩⟩, ⟨⟩⟩ = some ((true, ()), ())
end Go.Proofs.YthbbokndogjopaaGreatDoor.Cm
