/- By a program of this session (cmrow.py): the row of a law, out of its one pure statement and the printed walk. -/
import Derived.Test.YthliipenkikefaaGreatDoorCmRd
import Derived.Test.YthliipenkikefaaGreatDoorCJourNothing1
namespace Go.Proofs.YthliipenkikefaaGreatDoor.Cm
open Go
set_option linter.unusedVariables false
/-- THE ONE PURE STATEMENT of the law. -/
def law4_JourNothing.Pure : Prop := ∀ (a0 : Ty.T Ty.str) (a1 : Ty.T Ty.str) (a2 : Ty.T (Ty.int .i64)), Good P Ty.str a0 → Good P Ty.str a1 → Good P (Ty.int .i64) a2 → ∃ n, law4_JourNothing n ⟨⟨a0, a1, a2, ⟨⟩⟩, ⟨⟩⟩ = some ((true, ()), ())
end Go.Proofs.YthliipenkikefaaGreatDoor.Cm
