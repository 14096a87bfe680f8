/- By a program of this session (cmrow.py): the row of a law, out of its one pure statement and the printed walk. -/
import Derived.Test.YthllmcijlhlimaaGreatDoorCmRd
import Derived.Test.YthllmcijlhlimaaGreatDoorCCodeLoads1
namespace Go.Proofs.YthllmcijlhlimaaGreatDoor.Cm
open Go
set_option linter.unusedVariables false
/-- THE ONE PURE STATEMENT of the law. -/
def law21_CodeLoads.Pure : Prop := ∀ (a0 : Ty.T Ty.str) (a1 : Ty.T (Ty.slice 37 (Ty.pair Ty.str (Ty.pair (Ty.slice 3 (Ty.int .i64)) (Ty.pair (Ty.slice 3 (Ty.int .i64)) (Ty.pair (Ty.int .i64) (Ty.pair (Ty.slice 76 (Ty.pair Ty.str (Ty.pair (Ty.int .i64) (Ty.int .i64)))) (Ty.pair (Ty.slice 78 (Ty.pair Ty.str Ty.str)) (Ty.slice 48 (Ty.pair (Ty.int .i64) (Ty.pair (Ty.int .i64) (Ty.pair (Ty.int .i64) (Ty.pair (Ty.int .i64) (Ty.pair (Ty.int .i64) (Ty.int .i64))))))))))))))) (a2 : Ty.T (Ty.int .i64)), Good P Ty.str a0 → Good P (Ty.slice 37 (Ty.pair Ty.str (Ty.pair (Ty.slice 3 (Ty.int .i64)) (Ty.pair (Ty.slice 3 (Ty.int .i64)) (Ty.pair (Ty.int .i64) (Ty.pair (Ty.slice 76 (Ty.pair Ty.str (Ty.pair (Ty.int .i64) (Ty.int .i64)))) (Ty.pair (Ty.slice 78 (Ty.pair Ty.str Ty.str)) (Ty.slice 48 (Ty.pair (Ty.int .i64) (Ty.pair (Ty.int .i64) (Ty.pair (Ty.int .i64) (Ty.pair (Ty.int .i64) (Ty.pair (Ty.int .i64) (Ty.int .i64)))))))))))))) a1 → Good P (Ty.int .i64) a2 → ∃ n, law21_CodeLoads n ⟨⟨a0, a1, a2, ⟨⟩⟩, ⟨⟩⟩ = some ((true, ()), ())
end Go.Proofs.YthllmcijlhlimaaGreatDoor.Cm
