/- By a program of this session (cmrow.py): the row of a law, out of its one pure statement and the printed walk. -/
import Derived.Test.YtodiddgpdmigcaaGreatDoorCmRd
import Derived.Test.YtodiddgpdmigcaaGreatDoorCJourGoes1
namespace Go.Proofs.YtodiddgpdmigcaaGreatDoor.Cm
open Go
set_option linter.unusedVariables false
/-- THE ONE PURE STATEMENT of the law. -/
def law4_JourGoes.Pure : Prop := ∀ (a0 : Ty.T (Ty.int .i64)) (a1 : Ty.T (Ty.int .i64)), Good P (Ty.int .i64) a0 → Good P (Ty.int .i64) a1 → ∃ n, law4_JourGoes n ⟨⟨a0, a1, ⟨⟩⟩, ⟨⟩⟩ = some ((true, ()), ())
end Go.Proofs.YtodiddgpdmigcaaGreatDoor.Cm
