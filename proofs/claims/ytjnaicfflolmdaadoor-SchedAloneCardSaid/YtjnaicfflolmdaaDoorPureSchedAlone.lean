/- SchedAlone, in plain words: there are but so many; each is reckoned. By this session. -/
import Derived.Test.YtjnaicfflolmdaaDoorCSchedAloneR
import Derived.Test.YtjnaicfflolmdaaDoorCmPl
import Derived.KernelRfl
namespace Go.Proofs.YtjnaicfflolmdaaDoor.Pure
open Go Go.Proofs.YtjnaicfflolmdaaDoor.Cm
set_option linter.unusedVariables false
set_option maxRecDepth 100000
theorem number_at {n : Nat} (hn : 1 ≤ n) (x m : Int) (hm : 0 < m) (hm1 : m < 1000000) : world_Number n ((x, m, ()), ()) = some ((num x m, ()), ()) := by
  obtain ⟨n, rfl⟩ : ∃ k, n = k + 1 := ⟨n - 1, by omega⟩
  have hb := tmod_b x m hm
  simp only [world_Number]
  rw [if_neg (show ¬ m = 0 by omega)]
  unfold num
  by_cases h : Int.tmod x m < 0
  · rw [if_pos (decide_eq_true h), if_pos h, w64_id (by omega) (by omega)]
  · rw [if_neg (by simpa using h), if_neg h]
theorem red {n : Nat} (hn : 1 ≤ n) (x : Int) (b : Bool) : law18_SchedAlone (n + 1) ((x, b, ()), ()) = law18_SchedAlone (n + 1) ((num x 20, b, ()), ()) := by
  simp only [law18_SchedAlone, number_at hn x 20 (by omega) (by omega), number_at hn (num x 20) 20 (by omega) (by omega), num_num x (show (0 : Int) < 20 by omega)]
theorem each : (List.range 20).all (fun i => yes (law18_SchedAlone 101 (((i : Int), true, ()), ())) && yes (law18_SchedAlone 101 (((i : Int), false, ()), ()))) = true := by kernel_rfl
theorem SchedAlone : law18_SchedAlone.Pure := by
  intro x b _ _
  refine ⟨101, ?_⟩
  have h := red (n := 100) (by omega) x b
  obtain ⟨i, hi, he⟩ := num_nat x (show (0 : Int) < 20 by omega)
  rw [he] at h
  refine Eq.trans h ?_
  have h2 := all_range each (i := i) (by omega)
  rw [Bool.and_eq_true] at h2
  cases b with
  | true => exact of_yes h2.1
  | false => exact of_yes h2.2
end Go.Proofs.YtjnaicfflolmdaaDoor.Pure
