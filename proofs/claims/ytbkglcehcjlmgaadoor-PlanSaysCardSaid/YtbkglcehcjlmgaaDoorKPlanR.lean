/- By a program of this session (krow2.py): the row of a law, out of its one pure statement and the printed walk. -/
import Derived.Test.YtbkglcehcjlmgaaDoorRd
import Derived.Test.YtbkglcehcjlmgaaDoorKPlanx0
import Derived.Test.YtbkglcehcjlmgaaDoorKPlanx5
import Derived.Test.YtbkglcehcjlmgaaDoorKPlanx7
import Derived.KernelRfl
namespace Go.Proofs.YtbkglcehcjlmgaaDoor.KPlan
open Go.RowKit Go.Proofs.YtbkglcehcjlmgaaDoor.Rd Go.Proofs.YtbkglcehcjlmgaaDoorW.PrintWords Go.Proofs.YtbkglcehcjlmgaaDoorW.PrintLast Go.Proofs.YtbkglcehcjlmgaaDoorW.PrintMore
set_option linter.unusedVariables false
def good39 (x : S39) : Prop := (x.f0.size ≤ 140737488351232) ∧ ((Lit.int .i64 x.f1).wf = true) ∧ ((Lit.int .i64 x.f2).wf = true)
theorem rd39 (W : World) : Rd Tryd.prog W 39 k39 good39 := (rd_iso (d := (Kd.pair Kd.string (Kd.pair (Kd.int .i64) (Kd.int .i64)))) (fun x : S39 => (x.f0, x.f1, x.f2)) (fun a => ⟨a.1, a.2.1, a.2.2⟩) (fun _ => rfl) (rd_struct Tryd.underlying39 (by kernel_rfl) (rdfs_cons rfl (by kernel_rfl) (rd_string Tryd.underlying9) (rdfs_cons rfl (by kernel_rfl) (rd_int Tryd.underlying3) (rdfs_one rfl (by kernel_rfl) (rd_int Tryd.underlying2))))))
def good56 (x : S56) : Prop := ((Lit.int .i64 x.f0).wf = true) ∧ ((Lit.int .i64 x.f1).wf = true) ∧ ((Lit.int .i64 x.f2).wf = true)
theorem rd56 (W : World) : Rd Tryd.prog W 56 k56 good56 := (rd_iso (d := (Kd.pair (Kd.int .i64) (Kd.pair (Kd.int .i64) (Kd.int .i64)))) (fun x : S56 => (x.f0, x.f1, x.f2)) (fun a => ⟨a.1, a.2.1, a.2.2⟩) (fun _ => rfl) (rd_struct Tryd.underlying56 (by kernel_rfl) (rdfs_cons rfl (by kernel_rfl) (rd_int Tryd.underlying3) (rdfs_cons rfl (by kernel_rfl) (rd_int Tryd.underlying3) (rdfs_one rfl (by kernel_rfl) (rd_int Tryd.underlying2))))))
def good47 (x : ByteArray × (List Int) × (List Int)) : Prop := (x.1.size ≤ 140737488351232) ∧ (x.2.1.length * 8 ≤ 140737488351232 ∧ ∀ y ∈ x.2.1, (Lit.int .i64 y).wf = true) ∧ (x.2.2.length * 8 ≤ 140737488351232 ∧ ∀ y ∈ x.2.2, (Lit.int .i64 y).wf = true)
theorem rd47 (W : World) : Rd Tryd.prog W 47 (Kd.pair Kd.string (Kd.pair (Kd.slice 3 (Kd.int .i64)) (Kd.slice 3 (Kd.int .i64)))) good47 := (rd_struct Tryd.underlying47 (by kernel_rfl) (rdfs_cons rfl (by kernel_rfl) (rd_string Tryd.underlying9) (rdfs_cons rfl (by kernel_rfl) (rd_slice (B := 8) Tryd.underlying45 (by kernel_rfl) (by kernel_rfl) (rd_int Tryd.underlying3)) (rdfs_one rfl (by kernel_rfl) (rd_slice (B := 8) Tryd.underlying45 (by kernel_rfl) (by kernel_rfl) (rd_int Tryd.underlying3))))))
/-- THE ONE PURE STATEMENT of each law. -/
def pendulumlaw26_PlanSays.Pure : Prop := ∀ (l0 : (List S39)) (l1 : (List S39)) (l2 : (List S56)) (l3 : (List Int)), l0.length * 32 ≤ 140737488351232 → (∀ y ∈ l0, good39 y) → l1.length * 32 ≤ 140737488351232 → (∀ y ∈ l1, good39 y) → l2.length * 24 ≤ 140737488351232 → (∀ y ∈ l2, good56 y) → l3.length * 8 ≤ 140737488351232 → (∀ y ∈ l3, (Lit.int .i64 y).wf = true) → ∃ k, pendulumlaw26_PlanSays.f k l0 l1 l2 l3 = some true
def pendulumlaw26_PlanFaces.Pure : Prop := ∀ (a0_0 : ByteArray) (l0_1 : (List Int)) (l0_2 : (List Int)) (a1_0 : ByteArray) (l1_1 : (List Int)) (l1_2 : (List Int)), a0_0.size ≤ 140737488351232 → l0_1.length * 8 ≤ 140737488351232 → (∀ y ∈ l0_1, (Lit.int .i64 y).wf = true) → l0_2.length * 8 ≤ 140737488351232 → (∀ y ∈ l0_2, (Lit.int .i64 y).wf = true) → a1_0.size ≤ 140737488351232 → l1_1.length * 8 ≤ 140737488351232 → (∀ y ∈ l1_1, (Lit.int .i64 y).wf = true) → l1_2.length * 8 ≤ 140737488351232 → (∀ y ∈ l1_2, (Lit.int .i64 y).wf = true) → ∃ k, pendulumlaw26_PlanFaces.f k a0_0 l0_1 l0_2 a1_0 l1_1 l1_2 = some true
end Go.Proofs.YtbkglcehcjlmgaaDoor.KPlan
