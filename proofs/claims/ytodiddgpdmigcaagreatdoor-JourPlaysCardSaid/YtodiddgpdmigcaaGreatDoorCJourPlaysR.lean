/- By a program of this session (cmrow.py): the row of a law, out of its one pure statement and the printed walk. -/
import Derived.Test.YtodiddgpdmigcaaGreatDoorCmRd
import Derived.Test.YtodiddgpdmigcaaGreatDoorCJourPlays1
namespace Go.Proofs.YtodiddgpdmigcaaGreatDoor.Cm
open Go
set_option linter.unusedVariables false
/-- THE ONE PURE STATEMENT of the law. -/
def law4_JourPlays.Pure : Prop := ∀ (a0 : Ty.T (Ty.slice 32 (Ty.pair (Ty.int .i64) (Ty.slice 52 (Ty.pair Ty.str (Ty.pair Ty.str Ty.bool)))))) (a1 : Ty.T Ty.str), Good P (Ty.slice 32 (Ty.pair (Ty.int .i64) (Ty.slice 52 (Ty.pair Ty.str (Ty.pair Ty.str Ty.bool))))) a0 → Good P Ty.str a1 → ∃ n, law4_JourPlays n ⟨⟨a0, a1, ⟨⟩⟩, ⟨⟩⟩ = some ((true, ()), ())
end Go.Proofs.YtodiddgpdmigcaaGreatDoor.Cm
