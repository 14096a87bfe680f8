/- SameBytes and Bytes of slices of one's own, in plain words. By this session. -/
import Derived.Test.YtgpoomkbkckbaaaDoorDiskTwinsA
namespace Go.Proofs.YtgpoomkbkckbaaaDoor.Pure
open Go Go.Proofs.YtgpoomkbkckbaaaDoor.Cm
set_option linter.unusedVariables false
set_option linter.unusedSimpArgs false
set_option maxRecDepth 100000
theorem same_at {n : Nat} {l : List Int} (hn : l.length + 1 < n) (hl : l.length ≤ 1000000) : ref_SameBytes n (((), (), ()), (l, l, ())) = some ((true, ()), (l, l, ())) := by
  obtain ⟨n, rfl⟩ : ∃ k, n = k + 1 := ⟨n - 1, by omega⟩
  have h := for_all (F := ref_SameBytes_l4 n) (len := l.length) (fun i => (((), (), (i : Int), ()), (l, l, ()))) (r := some (.inl ((), (l, l, ())))) (fun i k hi => by
    simp only [ref_SameBytes_l4]
    rw [if_pos (decide_eq_true (show (i : Int) < (l.length : Int) by omega)), if_pos (show (0 : Int) ≤ (i : Int) ∧ (i : Int) < (l.length : Int) by omega), if_pos (show (0 : Int) ≤ (i : Int) ∧ (i : Int) < (l.length : Int) by omega), if_neg (by
      rw [Bool.not_eq_true', Bool.not_eq_false]
      exact beq_self_eq_true (α := Int) _)]
    simp only [w64_up i (by omega)]) (fun k => by
    simp only [ref_SameBytes_l4]
    rw [if_neg (by simp)]) (k := n) (by omega)
  simp only [ref_SameBytes]
  rw [if_neg (by simp)]
  have h' : ref_SameBytes_l4 n n (((), (), 0, ()), (l, l, ())) = some (.inl ((), (l, l, ()))) := h
  rw [h']
theorem bytes_at {n : Nat} {l : List Int} (hn : l.length + 1 < n) (hl : l.length ≤ 1000000) : ref_Bytes n ((l, ()), ()) = some (((), ()), (l, ())) := by
  obtain ⟨n, rfl⟩ : ∃ k, n = k + 1 := ⟨n - 1, by omega⟩
  have h := for_all (F := ref_Bytes_l3 n) (len := l.length) (fun i => ((l, (), (i : Int), ()), (l.take i, ()))) (r := some (.inl (((), ()), (l, ())))) (fun i k hi => by
    simp only [ref_Bytes_l3]
    rw [if_pos (decide_eq_true (show (i : Int) < (l.length : Int) by omega)), if_pos (show (0 : Int) ≤ (i : Int) ∧ (i : Int) < (l.length : Int) by omega), if_pos (by simp; omega), take_succ l i hi 0]
    simp only [w64_up i (by omega)]
    rfl) (fun k => by
    simp only [ref_Bytes_l3]
    rw [if_neg (by simp), List.take_length]) (k := n) (by omega)
  simp only [ref_Bytes]
  rw [if_pos (show (0 : Int) ≤ (0 : Int) ∧ (0 : Int) ≤ (l.length : Int) ∧ (l.length : Int) * ((1 : Nat) : Int) ≤ 140737488355328 ∧ (l.length : Int) ≤ 140737488355328 by omega)]
  have h' : ref_Bytes_l3 n n ((l, (), 0, ()), (List.replicate (0 : Int).toNat 0, ())) = some (.inl (((), ()), (l, ()))) := h
  rw [h']
end Go.Proofs.YtgpoomkbkckbaaaDoor.Pure
