/- By a program of this session (cmrow.py): the row of a law, out of its one pure statement and the printed walk. -/
import Derived.Test.YthbbokndogjopaaGreatDoorCmRd
import Derived.Test.YthbbokndogjopaaGreatDoorCJourFalls1
namespace Go.Proofs.YthbbokndogjopaaGreatDoor.Cm
open Go
set_option linter.unusedVariables false
/-- THE ONE PURE STATEMENT of the law. -/
def law4_JourFalls.Pure : Prop := ∀ (a0 : Ty.T (Ty.slice 37 (Ty.pair (Ty.int .i64) (Ty.slice 55 (Ty.pair Ty.str (Ty.pair Ty.str Ty.bool)))))) (a1 : Ty.T (Ty.slice 3 (Ty.int .i64))) (a2 : Ty.T (Ty.slice 3 (Ty.int .i64))), Good P (Ty.slice 37 (Ty.pair (Ty.int .i64) (Ty.slice 55 (Ty.pair Ty.str (Ty.pair Ty.str Ty.bool))))) a0 → Good P (Ty.slice 3 (Ty.int .i64)) a1 → Good P (Ty.slice 3 (Ty.int .i64)) a2 → ∃ n, law4_JourFalls n ⟨⟨a0, a1, a2, ⟨⟩⟩, ⟨⟩⟩ = some ((true, ()), ())
end Go.Proofs.YthbbokndogjopaaGreatDoor.Cm
