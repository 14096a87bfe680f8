/- What is the same. By this session. -/
import Derived.Test.YthllmcijlhlimaaGreatDoorCodeLoadsB
namespace Go.Proofs.YthllmcijlhlimaaGreatDoor.Pure
open Go Go.Lib Go.Proofs.YthllmcijlhlimaaGreatDoor.Cm
set_option linter.unusedVariables false
set_option linter.unusedSimpArgs false
theorem SameBytes_at {n : Nat} (l m : List Int) (hn : 10 + l.length ≤ n) (hl : l.length < 1000000000) : ref_SameBytes n ((l, m, ()), ()) = some ((decide (l = m), ()), ()) := by
  obtain ⟨n, rfl⟩ : ∃ k, n = k + 1 := ⟨n - 1, by omega⟩
  simp only [ref_SameBytes]
  by_cases hlen : l.length = m.length
  · rw [if_neg (by simp [hlen])]
    have a := for_inv (F := ref_SameBytes_l4 n) (len := l.length) (st := fun i => ((l, m, (i : Int), ()), ())) (fun i => l.take i = m.take i) (fun r => (r = some (.inl ((), ())) ∧ l = m) ∨ (r = some (.inr (.inl ((false, ()), ()))) ∧ l ≠ m)) (by simp) (fun i k hi hI => by
      simp only [ref_SameBytes_l4]
      rw [if_pos (decide_eq_true (show (i : Int) < (l.length : Int) by omega)), if_pos (show 0 ≤ (i : Int) ∧ (i : Int) < (l.length : Int) from ⟨by omega, by omega⟩), if_pos (show 0 ≤ (i : Int) ∧ (i : Int) < (m.length : Int) from ⟨by omega, by omega⟩)]
      rw [rdT_nat, rdT_nat]
      by_cases he : l.getD i (Ty.dflt (.int .u8)) = m.getD i (Ty.dflt (.int .u8))
      · refine .inl ⟨take_eq_succ hI hi (by omega) _ he, ?_⟩
        rw [he, if_neg (by simp), w64_up i (by omega)]
      · refine .inr (.inr ⟨?_, ne_of_getD _ he⟩)
        rw [if_pos (by simp only [Bool.not_eq_true', beq_eq_false_iff_ne]; exact he)]) (fun k hI => by
      rw [List.take_length, hlen, List.take_length] at hI
      refine .inl ⟨?_, hI⟩
      simp only [ref_SameBytes_l4]
      rw [if_neg (by simp)]) n (by omega)
    rw [show (0 : Int) = ((0 : Nat) : Int) from rfl]
    rcases a with ⟨a, h⟩ | ⟨a, h⟩
    · rw [a, decide_eq_true h]
    · rw [a, decide_eq_false h]
  · rw [if_pos (by simp; omega), decide_eq_false (fun h => hlen (by rw [h]))]
end Go.Proofs.YthllmcijlhlimaaGreatDoor.Pure
