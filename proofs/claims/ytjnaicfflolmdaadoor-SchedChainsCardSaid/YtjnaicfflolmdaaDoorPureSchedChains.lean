/- SchedChains, in plain words: there are but so many; each is reckoned. By this session. -/
import Derived.Test.YtjnaicfflolmdaaDoorCSchedChainsR
import Derived.Test.YtjnaicfflolmdaaDoorCmPl
import Derived.KernelRfl
namespace Go.Proofs.YtjnaicfflolmdaaDoor.Pure
open Go Go.Proofs.YtjnaicfflolmdaaDoor.Cm
set_option linter.unusedVariables false
set_option maxRecDepth 100000
theorem number_at {n : Nat} (hn : 1 ≤ n) (x m : Int) (hm : 0 < m) (hm1 : m < 1000000) : world_Number n ((x, m, ()), ()) = some ((num x m, ()), ()) := by
  obtain ⟨n, rfl⟩ : ∃ k, n = k + 1 := ⟨n - 1, by omega⟩
  have hb := tmod_b x m hm
  simp only [world_Number]
  rw [if_neg (show ¬ m = 0 by omega)]
  unfold num
  by_cases h : Int.tmod x m < 0
  · rw [if_pos (decide_eq_true h), if_pos h, w64_id (by omega) (by omega)]
  · rw [if_neg (by simpa using h), if_neg h]
theorem red {n : Nat} (hn : 1 ≤ n) (x y : Int) (b c : Bool) : law18_SchedChains (n + 1) ((x, y, b, c, ()), ()) = law18_SchedChains (n + 1) ((num x 20, num y 4, b, c, ()), ()) := by
  simp only [law18_SchedChains, number_at hn x 20 (by omega) (by omega), number_at hn (num x 20) 20 (by omega) (by omega), num_num x (show (0 : Int) < 20 by omega), number_at hn y 4 (by omega) (by omega), number_at hn (num y 4) 4 (by omega) (by omega), num_num y (show (0 : Int) < 4 by omega)]
def one (i j : Nat) (b c : Bool) : Bool := yes (law18_SchedChains 101 (((i : Int), (j : Int), b, c, ()), ()))
theorem each1 : (List.range 20).all (fun i => (List.range 4).all fun j => one i j true true) = true := by kernel_rfl
theorem each2 : (List.range 20).all (fun i => (List.range 4).all fun j => one i j true false) = true := by kernel_rfl
theorem each3 : (List.range 20).all (fun i => (List.range 4).all fun j => one i j false true) = true := by kernel_rfl
theorem each4 : (List.range 20).all (fun i => (List.range 4).all fun j => one i j false false) = true := by kernel_rfl
theorem SchedChains : law18_SchedChains.Pure := by
  intro x y b c _ _ _ _
  refine ⟨101, ?_⟩
  have h := red (n := 100) (by omega) x y b c
  obtain ⟨i, hi, he⟩ := num_nat x (show (0 : Int) < 20 by omega)
  obtain ⟨j, hj, hf⟩ := num_nat y (show (0 : Int) < 4 by omega)
  rw [he, hf] at h
  refine Eq.trans h ?_
  cases b <;> cases c
  · exact of_yes (all_range (all_range each4 (i := i) (by omega)) (i := j) (by omega))
  · exact of_yes (all_range (all_range each3 (i := i) (by omega)) (i := j) (by omega))
  · exact of_yes (all_range (all_range each2 (i := i) (by omega)) (i := j) (by omega))
  · exact of_yes (all_range (all_range each1 (i := i) (by omega)) (i := j) (by omega))
end Go.Proofs.YtjnaicfflolmdaaDoor.Pure
