/- DepsRings, in plain words: there are but so many; each is reckoned. By this session. -/
import Derived.Test.YtkmeghmhgbbmhaaDoorCDepsRingsR
import Derived.Test.YtkmeghmhgbbmhaaDoorCmPl
import Derived.KernelRfl
namespace Go.Proofs.YtkmeghmhgbbmhaaDoor.Pure
open Go Go.Proofs.YtkmeghmhgbbmhaaDoor.Cm
set_option linter.unusedVariables false
set_option maxRecDepth 100000
theorem number_at {n : Nat} (hn : 1 ≤ n) (x m : Int) (hm : 0 < m) (hm1 : m < 1000000) : world_Number n ((x, m, ()), ()) = some ((num x m, ()), ()) := by
  obtain ⟨n, rfl⟩ : ∃ k, n = k + 1 := ⟨n - 1, by omega⟩
  have hb := tmod_b x m hm
  simp only [world_Number]
  rw [if_neg (show ¬ m = 0 by omega)]
  unfold num
  by_cases h : Int.tmod x m < 0
  · rw [if_pos (decide_eq_true h), if_pos h, w64_id (by omega) (by omega)]
  · rw [if_neg (by simpa using h), if_neg h]
theorem red {n : Nat} (hn : 1 ≤ n) (x y : Int) (b : Bool) : law24_DepsRings (n + 1) ((x, y, b, ()), ()) = law24_DepsRings (n + 1) ((num x 12, num y (num x 12 + 1), b, ()), ()) := by
  have h0 := num_range x (show (0 : Int) < 12 by omega)
  have hw : IntKind.i64.wrap (num x 12 + 1) = num x 12 + 1 := w64_id (by omega) (by omega)
  simp only [law24_DepsRings, number_at hn x 12 (by omega) (by omega), number_at hn (num x 12) 12 (by omega) (by omega), num_num x (show (0 : Int) < 12 by omega), hw, number_at hn y (num x 12 + 1) (by omega) (by omega),
    number_at hn (num y (num x 12 + 1)) (num x 12 + 1) (by omega) (by omega), num_num y (show (0 : Int) < num x 12 + 1 by omega)]
theorem each : (List.range 12).all (fun i => (List.range (i + 1)).all fun j => yes (law24_DepsRings 101 (((i : Int), (j : Int), true, ()), ())) && yes (law24_DepsRings 101 (((i : Int), (j : Int), false, ()), ()))) = true := by kernel_rfl
theorem DepsRings : law24_DepsRings.Pure := by
  intro x y b _ _ _
  refine ⟨101, ?_⟩
  have h := red (n := 100) (by omega) x y b
  obtain ⟨i, hi, he⟩ := num_nat x (show (0 : Int) < 12 by omega)
  obtain ⟨j, hj, hf⟩ := num_nat y (show (0 : Int) < num x 12 + 1 by omega)
  rw [hf, he] at h
  refine Eq.trans h ?_
  have h2 := all_range (all_range each (i := i) (by omega)) (i := j) (by omega)
  rw [Bool.and_eq_true] at h2
  cases b with
  | true => exact of_yes h2.1
  | false => exact of_yes h2.2
end Go.Proofs.YtkmeghmhgbbmhaaDoor.Pure
