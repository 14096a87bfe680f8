/- By a program of this session (krow2.py): the row of a law, out of its one pure statement and the printed walk. -/
import Derived.Test.YtbkglcehcjlmgaaDoorRd
import Derived.Test.YtbkglcehcjlmgaaDoorKBackx0
import Derived.Test.YtbkglcehcjlmgaaDoorKBackx3
import Derived.KernelRfl
namespace Go.Proofs.YtbkglcehcjlmgaaDoor.KBack
open Go.RowKit Go.Proofs.YtbkglcehcjlmgaaDoor.Rd Go.Proofs.YtbkglcehcjlmgaaDoorW.PrintWords Go.Proofs.YtbkglcehcjlmgaaDoorW.PrintLast Go.Proofs.YtbkglcehcjlmgaaDoorW.PrintMore
set_option linter.unusedVariables false
def good39 (x : S39) : Prop := (x.f0.size ≤ 140737488351232) ∧ ((Lit.int .i64 x.f1).wf = true) ∧ ((Lit.int .i64 x.f2).wf = true)
theorem rd39 (W : World) : Rd Tryd.prog W 39 k39 good39 := (rd_iso (d := (Kd.pair Kd.string (Kd.pair (Kd.int .i64) (Kd.int .i64)))) (fun x : S39 => (x.f0, x.f1, x.f2)) (fun a => ⟨a.1, a.2.1, a.2.2⟩) (fun _ => rfl) (rd_struct Tryd.underlying39 (by kernel_rfl) (rdfs_cons rfl (by kernel_rfl) (rd_string Tryd.underlying9) (rdfs_cons rfl (by kernel_rfl) (rd_int Tryd.underlying3) (rdfs_one rfl (by kernel_rfl) (rd_int Tryd.underlying2))))))
/-- THE ONE PURE STATEMENT of each law. -/
def pendulumlaw26_PlanBack.Pure : Prop := ∀ (l0 : (List S39)) (l1 : (List S39)) (l2 : (List Int)), l0.length * 32 ≤ 140737488351232 → (∀ y ∈ l0, good39 y) → l1.length * 32 ≤ 140737488351232 → (∀ y ∈ l1, good39 y) → l2.length * 8 ≤ 140737488351232 → (∀ y ∈ l2, (Lit.int .i64 y).wf = true) → ∃ k, pendulumlaw26_PlanBack.f k l0 l1 l2 = some true
end Go.Proofs.YtbkglcehcjlmgaaDoor.KBack
