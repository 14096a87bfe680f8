/- VerifyWhole, in plain words: there are but so many; each is reckoned. By this session. -/
import Derived.Test.YtnfhfbdnpfgimaaDoorCVerifyWholeR
import Derived.Test.YtnfhfbdnpfgimaaDoorCmPl
import Derived.KernelRfl
namespace Go.Proofs.YtnfhfbdnpfgimaaDoor.Pure
open Go Go.Proofs.YtnfhfbdnpfgimaaDoor.Cm
set_option linter.unusedVariables false
set_option maxRecDepth 100000
theorem number_at {n : Nat} (hn : 1 ≤ n) (x m : Int) (hm : 0 < m) (hm1 : m < 1000000) : world_Number n ((x, m, ()), ()) = some ((num x m, ()), ()) := by
  obtain ⟨n, rfl⟩ : ∃ k, n = k + 1 := ⟨n - 1, by omega⟩
  have hb := tmod_b x m hm
  simp only [world_Number]
  rw [if_neg (show ¬ m = 0 by omega)]
  unfold num
  by_cases h : Int.tmod x m < 0
  · rw [if_pos (decide_eq_true h), if_pos h, w64_id (by omega) (by omega)]
  · rw [if_neg (by simpa using h), if_neg h]
theorem red {n : Nat} (hn : 1 ≤ n) (x : Int) : law22_VerifyWhole (n + 1) ((x, ()), ()) = law22_VerifyWhole (n + 1) ((num x 9, ()), ()) := by
  simp only [law22_VerifyWhole, law22_VerifyWhole_c26, number_at hn x 9 (by omega) (by omega), number_at hn (num x 9) 9 (by omega) (by omega), num_num x (show (0 : Int) < 9 by omega)]
theorem each : (List.range 9).all (fun i => yes (law22_VerifyWhole 101 (((i : Int), ()), ()))) = true := by kernel_rfl
theorem VerifyWhole : law22_VerifyWhole.Pure := by
  intro x _
  refine ⟨101, ?_⟩
  have h := red (n := 100) (by omega) x
  obtain ⟨i, hi, he⟩ := num_nat x (show (0 : Int) < 9 by omega)
  rw [he] at h
  exact h.trans (of_yes (all_range each (i := i) (by omega)))
end Go.Proofs.YtnfhfbdnpfgimaaDoor.Pure
