/- VerifyAll, in plain words: there are but so many. By this session. -/
import Derived.Test.YtkcgcaefhoepoaaDoorCVerifyAllR
import Derived.Test.YtkcgcaefhoepoaaDoorCmPl
import Derived.KernelRfl
namespace Go.Proofs.YtkcgcaefhoepoaaDoor.Pure
open Go Go.Proofs.YtkcgcaefhoepoaaDoor.Cm
set_option linter.unusedVariables false
set_option maxRecDepth 100000
theorem rowsT : (List.range 6).all (fun i => (List.range (i + 1)).all fun j => yes (law22_VerifyAll 101 (((i : Int), (j : Int), true, ()), ()))) = true := by kernel_rfl
theorem rowsF : (List.range 6).all (fun i => (List.range (i + 1)).all fun j => yes (law22_VerifyAll 101 (((i : Int), (j : Int), false, ()), ()))) = true := by kernel_rfl
theorem number_at {n : Nat} (hn : 1 ≤ n) (x m : Int) (hm : 0 < m) (hm1 : m < 1000000) : world_Number n ((x, m, ()), ()) = some ((num x m, ()), ()) := by
  obtain ⟨n, rfl⟩ : ∃ k, n = k + 1 := ⟨n - 1, by omega⟩
  have hb := tmod_b x m hm
  simp only [world_Number]
  rw [if_neg (show ¬ m = 0 by omega)]
  unfold num
  by_cases h : Int.tmod x m < 0
  · rw [if_pos (decide_eq_true h), if_pos h, w64_id (by omega) (by omega)]
  · rw [if_neg (by simpa using h), if_neg h]
theorem red {n : Nat} (hn : 1 ≤ n) (x y : Int) (b : Bool) : law22_VerifyAll (n + 1) ((x, y, b, ()), ()) = law22_VerifyAll (n + 1) ((num x 6, num y (num x 6 + 1), b, ()), ()) := by
  have hx := num_range x (show (0 : Int) < 6 by omega)
  have hw : IntKind.i64.wrap (num x 6 + 1) = num x 6 + 1 := w64_id (by omega) (by omega)
  simp only [law22_VerifyAll, number_at hn x 6 (by omega) (by omega), number_at hn (num x 6) 6 (by omega) (by omega), num_num x (show (0 : Int) < 6 by omega), hw,
    number_at hn y (num x 6 + 1) (by omega) (by omega), number_at hn (num y (num x 6 + 1)) (num x 6 + 1) (by omega) (by omega), num_num y (show (0 : Int) < num x 6 + 1 by omega)]
theorem VerifyAll : law22_VerifyAll.Pure := by
  intro x y b _ _ _
  refine ⟨101, ?_⟩
  have h := red (n := 100) (by omega) x y b
  obtain ⟨i, hi, he⟩ := num_nat x (show (0 : Int) < 6 by omega)
  obtain ⟨j, hj, hf⟩ := num_nat y (show (0 : Int) < (i : Int) + 1 by omega)
  rw [he, hf] at h
  cases b with
  | true => exact h.trans (of_yes (all_range (all_range rowsT (i := i) (by omega)) (i := j) (by omega)))
  | false => exact h.trans (of_yes (all_range (all_range rowsF (i := i) (by omega)) (i := j) (by omega)))
end Go.Proofs.YtkcgcaefhoepoaaDoor.Pure
