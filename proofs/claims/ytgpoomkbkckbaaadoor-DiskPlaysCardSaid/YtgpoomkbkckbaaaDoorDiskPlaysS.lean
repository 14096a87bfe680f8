/- SameBytes, in plain words. By this session. -/
import Derived.Test.YtgpoomkbkckbaaaDoorDiskPlaysA
namespace Go.Proofs.YtgpoomkbkckbaaaDoor.Pure
open Go Go.Proofs.YtgpoomkbkckbaaaDoor.Cm
set_option linter.unusedVariables false
set_option linter.unusedSimpArgs false
set_option maxRecDepth 100000
theorem same_at {n : Nat} {l : List Int} (hn : l.length + 1 < n) (hl : l.length ≤ 1000000) : ref_SameBytes n ((l, l, ()), ()) = some ((true, ()), ()) := by
  obtain ⟨n, rfl⟩ : ∃ k, n = k + 1 := ⟨n - 1, by omega⟩
  have h := for_all (F := ref_SameBytes_l4 n) (len := l.length) (fun i => ((l, l, (i : Int), ()), ())) (r := some (.inl ((), ()))) (fun i k hi => by
    simp only [ref_SameBytes_l4]
    rw [if_pos (decide_eq_true (show (i : Int) < (l.length : Int) by omega)), if_pos (show (0 : Int) ≤ (i : Int) ∧ (i : Int) < (l.length : Int) by omega), if_pos (show (0 : Int) ≤ (i : Int) ∧ (i : Int) < (l.length : Int) by omega), if_neg (by
      rw [Bool.not_eq_true', Bool.not_eq_false]
      exact beq_self_eq_true (α := Int) _)]
    simp only [w64_up i (by omega)]) (fun k => by
    simp only [ref_SameBytes_l4]
    rw [if_neg (by simp)]) (k := n) (by omega)
  simp only [ref_SameBytes]
  rw [if_neg (by simp)]
  have h' : ref_SameBytes_l4 n n ((l, l, 0, ()), ()) = some (.inl ((), ())) := h
  rw [h']
end Go.Proofs.YtgpoomkbkckbaaaDoor.Pure
