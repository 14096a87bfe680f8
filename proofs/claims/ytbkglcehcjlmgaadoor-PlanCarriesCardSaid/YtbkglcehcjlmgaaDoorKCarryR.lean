/- By a program of this session (krow2.py): the row of a law, out of its one pure statement and the printed walk. -/
import Derived.Test.YtbkglcehcjlmgaaDoorRd
import Derived.Test.YtbkglcehcjlmgaaDoorKCarryx0
import Derived.Test.YtbkglcehcjlmgaaDoorKCarryx3
import Derived.KernelRfl
namespace Go.Proofs.YtbkglcehcjlmgaaDoor.KCarry
open Go.RowKit Go.Proofs.YtbkglcehcjlmgaaDoor.Rd Go.Proofs.YtbkglcehcjlmgaaDoorW.PrintWords Go.Proofs.YtbkglcehcjlmgaaDoorW.PrintLast Go.Proofs.YtbkglcehcjlmgaaDoorW.PrintMore
set_option linter.unusedVariables false
/-- THE ONE PURE STATEMENT of each law. -/
def pendulumlaw26_PlanCarries.Pure : Prop := ∀ (a0 : Int) (l1 : (List Int)) (l2 : (List Int)) (a3 : Int), (Lit.int .i64 a0).wf = true → l1.length * 8 ≤ 140737488351232 → (∀ y ∈ l1, (Lit.int .i64 y).wf = true) → l2.length * 8 ≤ 140737488351232 → (∀ y ∈ l2, (Lit.int .i64 y).wf = true) → (Lit.int .i64 a3).wf = true → ∃ k, pendulumlaw26_PlanCarries.f k a0 l1 l2 a3 = some true
end Go.Proofs.YtbkglcehcjlmgaaDoor.KCarry
