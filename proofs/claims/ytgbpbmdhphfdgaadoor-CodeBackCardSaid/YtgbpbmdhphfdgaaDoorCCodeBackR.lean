/- By a program of this session (cmrow.py): the row of a law, out of its one pure statement and the printed walk. -/
import Derived.Test.YtgbpbmdhphfdgaaDoorCmRd
import Derived.Test.YtgbpbmdhphfdgaaDoorCCodeBack1
namespace Go.Proofs.YtgbpbmdhphfdgaaDoor.Cm
open Go
set_option linter.unusedVariables false
/-- THE ONE PURE STATEMENT of the law. -/
def law21_CodeBack.Pure : Prop := ∀ (a0 : Ty.T (Ty.pair Ty.str (Ty.pair (Ty.slice 3 (Ty.int .i64)) (Ty.pair (Ty.slice 3 (Ty.int .i64)) (Ty.pair (Ty.int .i64) (Ty.pair (Ty.slice 45 (Ty.pair Ty.str (Ty.pair (Ty.int .i64) (Ty.int .i64)))) (Ty.pair (Ty.slice 47 (Ty.pair Ty.str Ty.str)) (Ty.slice 43 (Ty.pair (Ty.int .i64) (Ty.pair (Ty.int .i64) (Ty.pair (Ty.int .i64) (Ty.pair (Ty.int .i64) (Ty.pair (Ty.int .i64) (Ty.int .i64)))))))))))))) (a1 : Ty.T (Ty.slice 5 (Ty.int .u8))) (a2 : Ty.T (Ty.int .i64)), Good P (Ty.pair Ty.str (Ty.pair (Ty.slice 3 (Ty.int .i64)) (Ty.pair (Ty.slice 3 (Ty.int .i64)) (Ty.pair (Ty.int .i64) (Ty.pair (Ty.slice 45 (Ty.pair Ty.str (Ty.pair (Ty.int .i64) (Ty.int .i64)))) (Ty.pair (Ty.slice 47 (Ty.pair Ty.str Ty.str)) (Ty.slice 43 (Ty.pair (Ty.int .i64) (Ty.pair (Ty.int .i64) (Ty.pair (Ty.int .i64) (Ty.pair (Ty.int .i64) (Ty.pair (Ty.int .i64) (Ty.int .i64))))))))))))) a0 → Good P (Ty.slice 5 (Ty.int .u8)) a1 → Good P (Ty.int .i64) a2 → ∃ n, match a0 with | ⟨a01, ⟨a021, ⟨a0221, ⟨a02221, ⟨a022221, ⟨a0222221, a0222222⟩⟩⟩⟩⟩⟩ => law21_CodeBack n ⟨⟨⟨a01, a021, a0221, a02221, a022221, a0222221, a0222222, ⟨⟩⟩, a1, a2, ⟨⟩⟩, ⟨⟩⟩ = some ((true, ()), ())
end Go.Proofs.YtgbpbmdhphfdgaaDoor.Cm
