/- VerifyBounds, in plain words: there are but so many; each is reckoned. By this session. -/
import Derived.Test.YtnfhfbdnpfgimaaDoorVerifyBoundsR0
import Derived.Test.YtnfhfbdnpfgimaaDoorVerifyBoundsR1
import Derived.Test.YtnfhfbdnpfgimaaDoorVerifyBoundsR2
import Derived.Test.YtnfhfbdnpfgimaaDoorVerifyBoundsR3
import Derived.Test.YtnfhfbdnpfgimaaDoorVerifyBoundsR4
import Derived.Test.YtnfhfbdnpfgimaaDoorVerifyBoundsR5
import Derived.Test.YtnfhfbdnpfgimaaDoorCmPl
import Derived.KernelRfl
namespace Go.Proofs.YtnfhfbdnpfgimaaDoor.Pure
open Go Go.Proofs.YtnfhfbdnpfgimaaDoor.Cm
set_option linter.unusedVariables false
set_option maxRecDepth 100000
theorem number_at {n : Nat} (hn : 1 ≤ n) (x m : Int) (hm : 0 < m) (hm1 : m < 1000000) : world_Number n ((x, m, ()), ()) = some ((num x m, ()), ()) := by
  obtain ⟨n, rfl⟩ : ∃ k, n = k + 1 := ⟨n - 1, by omega⟩
  have hb := tmod_b x m hm
  simp only [world_Number]
  rw [if_neg (show ¬ m = 0 by omega)]
  unfold num
  by_cases h : Int.tmod x m < 0
  · rw [if_pos (decide_eq_true h), if_pos h, w64_id (by omega) (by omega)]
  · rw [if_neg (by simpa using h), if_neg h]
theorem red {n : Nat} (hn : 1 ≤ n) (o x y t : Int) : law22_VerifyBounds (n + 1) ((o, x, y, t, ()), ()) = law22_VerifyBounds (n + 1) ((num o 6, num x 9, num y 9, num t 10, ()), ()) := by
  simp only [law22_VerifyBounds, number_at hn o 6 (by omega) (by omega), number_at hn (num o 6) 6 (by omega) (by omega), num_num o (show (0 : Int) < 6 by omega), number_at hn x 9 (by omega) (by omega), number_at hn (num x 9) 9 (by omega) (by omega), num_num x (show (0 : Int) < 9 by omega),
    number_at hn y 9 (by omega) (by omega), number_at hn (num y 9) 9 (by omega) (by omega), num_num y (show (0 : Int) < 9 by omega), number_at hn t 10 (by omega) (by omega), number_at hn (num t 10) 10 (by omega) (by omega), num_num t (show (0 : Int) < 10 by omega)]
theorem each0 {i : Nat} (h : i < 9) : one 0 i = true := by
  match i, h with
  | 0, _ => exact each0_0
  | 1, _ => exact each0_1
  | 2, _ => exact each0_2
  | 3, _ => exact each0_3
  | 4, _ => exact each0_4
  | 5, _ => exact each0_5
  | 6, _ => exact each0_6
  | 7, _ => exact each0_7
  | 8, _ => exact each0_8
  | k + 9, h => exact absurd h (by omega)
theorem each1 {i : Nat} (h : i < 9) : one 1 i = true := by
  match i, h with
  | 0, _ => exact each1_0
  | 1, _ => exact each1_1
  | 2, _ => exact each1_2
  | 3, _ => exact each1_3
  | 4, _ => exact each1_4
  | 5, _ => exact each1_5
  | 6, _ => exact each1_6
  | 7, _ => exact each1_7
  | 8, _ => exact each1_8
  | k + 9, h => exact absurd h (by omega)
theorem each2 {i : Nat} (h : i < 9) : one 2 i = true := by
  match i, h with
  | 0, _ => exact each2_0
  | 1, _ => exact each2_1
  | 2, _ => exact each2_2
  | 3, _ => exact each2_3
  | 4, _ => exact each2_4
  | 5, _ => exact each2_5
  | 6, _ => exact each2_6
  | 7, _ => exact each2_7
  | 8, _ => exact each2_8
  | k + 9, h => exact absurd h (by omega)
theorem each3 {i : Nat} (h : i < 9) : one 3 i = true := by
  match i, h with
  | 0, _ => exact each3_0
  | 1, _ => exact each3_1
  | 2, _ => exact each3_2
  | 3, _ => exact each3_3
  | 4, _ => exact each3_4
  | 5, _ => exact each3_5
  | 6, _ => exact each3_6
  | 7, _ => exact each3_7
  | 8, _ => exact each3_8
  | k + 9, h => exact absurd h (by omega)
theorem each4 {i : Nat} (h : i < 9) : one 4 i = true := by
  match i, h with
  | 0, _ => exact each4_0
  | 1, _ => exact each4_1
  | 2, _ => exact each4_2
  | 3, _ => exact each4_3
  | 4, _ => exact each4_4
  | 5, _ => exact each4_5
  | 6, _ => exact each4_6
  | 7, _ => exact each4_7
  | 8, _ => exact each4_8
  | k + 9, h => exact absurd h (by omega)
theorem each5 {i : Nat} (h : i < 9) : one 5 i = true := by
  match i, h with
  | 0, _ => exact each5_0
  | 1, _ => exact each5_1
  | 2, _ => exact each5_2
  | 3, _ => exact each5_3
  | 4, _ => exact each5_4
  | 5, _ => exact each5_5
  | 6, _ => exact each5_6
  | 7, _ => exact each5_7
  | 8, _ => exact each5_8
  | k + 9, h => exact absurd h (by omega)
theorem each {o i : Nat} (h : o < 6) (k : i < 9) : one o i = true := by
  match o, h with
  | 0, _ => exact each0 k
  | 1, _ => exact each1 k
  | 2, _ => exact each2 k
  | 3, _ => exact each3 k
  | 4, _ => exact each4 k
  | 5, _ => exact each5 k
  | q + 6, h => exact absurd h (by omega)
theorem VerifyBounds : law22_VerifyBounds.Pure := by
  intro o x y t _ _ _ _
  refine ⟨61, ?_⟩
  have h := red (n := 60) (by omega) o x y t
  obtain ⟨a, ha, ea⟩ := num_nat o (show (0 : Int) < 6 by omega)
  obtain ⟨i, hi, ei⟩ := num_nat x (show (0 : Int) < 9 by omega)
  obtain ⟨j, hj, ej⟩ := num_nat y (show (0 : Int) < 9 by omega)
  obtain ⟨k, hk, ek⟩ := num_nat t (show (0 : Int) < 10 by omega)
  rw [ea, ei, ej, ek] at h
  exact h.trans (of_yes (all_range (all_range (each (o := a) (i := i) (by omega) (by omega)) (i := j) (by omega)) (i := k) (by omega)))
end Go.Proofs.YtnfhfbdnpfgimaaDoor.Pure
