/- By a program of this session (cmrow.py): the row of a law, out of its one pure statement and the printed walk. -/
import Derived.Test.YthliipenkikefaaGreatDoorCmRd
import Derived.Test.YthliipenkikefaaGreatDoorCJourMany1
namespace Go.Proofs.YthliipenkikefaaGreatDoor.Cm
open Go
set_option linter.unusedVariables false
/-- THE ONE PURE STATEMENT of the law. -/
def law4_JourMany.Pure : Prop := ∀ (a0 : Ty.T (Ty.int .i64)), Good P (Ty.int .i64) a0 → ∃ n, law4_JourMany n ⟨⟨a0, ⟨⟩⟩, ⟨⟩⟩ = some ((true, ()), ())
end Go.Proofs.YthliipenkikefaaGreatDoor.Cm
