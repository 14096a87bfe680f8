/- By a program of this session (krow2.py): the row of a law, out of its one pure statement and the printed walk. -/
import Derived.Test.YtgmnklfbmbahcaaDoorRd
import Derived.Test.YtgmnklfbmbahcaaDoorKTShowBracketsx0
import Derived.Test.YtgmnklfbmbahcaaDoorKTShowBracketsx3
import Derived.KernelRfl
namespace Go.Proofs.YtgmnklfbmbahcaaDoor.KTShowBrackets
open Go.RowKit Go.Proofs.YtgmnklfbmbahcaaDoor.Rd Go.Proofs.YtgmnklfbmbahcaaDoorW.PrintWords Go.Proofs.YtgmnklfbmbahcaaDoorW.PrintLast Go.Proofs.YtgmnklfbmbahcaaDoorW.PrintMore
set_option linter.unusedVariables false
/-- THE ONE PURE STATEMENT of each law. -/
def pendulumlaw8_ShowBrackets.Pure : Prop := ∀ (l0 : (List Int)), l0.length * 8 ≤ 140737488351232 → (∀ y ∈ l0, (Lit.int .i64 y).wf = true) → ∃ k, pendulumlaw8_ShowBrackets.f k l0 = some true
end Go.Proofs.YtgmnklfbmbahcaaDoor.KTShowBrackets
