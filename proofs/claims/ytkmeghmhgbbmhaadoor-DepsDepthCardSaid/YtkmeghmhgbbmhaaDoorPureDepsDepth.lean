/- DepsDepth, in plain words: there are but so many; each is reckoned. By this session. -/
import Derived.Test.YtkmeghmhgbbmhaaDoorCDepsDepthR
import Derived.Test.YtkmeghmhgbbmhaaDoorCmPl
import Derived.KernelRfl
namespace Go.Proofs.YtkmeghmhgbbmhaaDoor.Pure
open Go Go.Proofs.YtkmeghmhgbbmhaaDoor.Cm
set_option linter.unusedVariables false
set_option maxRecDepth 100000
theorem number_at {n : Nat} (hn : 1 ≤ n) (x m : Int) (hm : 0 < m) (hm1 : m < 1000000) : world_Number n ((x, m, ()), ()) = some ((num x m, ()), ()) := by
  obtain ⟨n, rfl⟩ : ∃ k, n = k + 1 := ⟨n - 1, by omega⟩
  have hb := tmod_b x m hm
  simp only [world_Number]
  rw [if_neg (show ¬ m = 0 by omega)]
  unfold num
  by_cases h : Int.tmod x m < 0
  · rw [if_pos (decide_eq_true h), if_pos h, w64_id (by omega) (by omega)]
  · rw [if_neg (by simpa using h), if_neg h]
theorem red {n : Nat} (hn : 1 ≤ n) (x y : Int) : law24_DepsDepth (n + 1) ((x, y, ()), ()) = law24_DepsDepth (n + 1) ((num x 14, num y (num x 14 + 1), ()), ()) := by
  have h0 := num_range x (show (0 : Int) < 14 by omega)
  have hw : IntKind.i64.wrap (num x 14 + 1) = num x 14 + 1 := w64_id (by omega) (by omega)
  simp only [law24_DepsDepth, number_at hn x 14 (by omega) (by omega), number_at hn (num x 14) 14 (by omega) (by omega), num_num x (show (0 : Int) < 14 by omega), hw, number_at hn y (num x 14 + 1) (by omega) (by omega),
    number_at hn (num y (num x 14 + 1)) (num x 14 + 1) (by omega) (by omega), num_num y (show (0 : Int) < num x 14 + 1 by omega)]
theorem row0 : (List.range 1).all (fun j => yes (law24_DepsDepth 101 (((0 : Int), (j : Int), ()), ()))) = true := by kernel_rfl
theorem row1 : (List.range 2).all (fun j => yes (law24_DepsDepth 101 (((1 : Int), (j : Int), ()), ()))) = true := by kernel_rfl
theorem row2 : (List.range 3).all (fun j => yes (law24_DepsDepth 101 (((2 : Int), (j : Int), ()), ()))) = true := by kernel_rfl
theorem row3 : (List.range 4).all (fun j => yes (law24_DepsDepth 101 (((3 : Int), (j : Int), ()), ()))) = true := by kernel_rfl
theorem row4 : (List.range 5).all (fun j => yes (law24_DepsDepth 101 (((4 : Int), (j : Int), ()), ()))) = true := by kernel_rfl
theorem row5 : (List.range 6).all (fun j => yes (law24_DepsDepth 101 (((5 : Int), (j : Int), ()), ()))) = true := by kernel_rfl
theorem row6 : (List.range 7).all (fun j => yes (law24_DepsDepth 101 (((6 : Int), (j : Int), ()), ()))) = true := by kernel_rfl
theorem row7 : (List.range 8).all (fun j => yes (law24_DepsDepth 101 (((7 : Int), (j : Int), ()), ()))) = true := by kernel_rfl
theorem row8 : (List.range 9).all (fun j => yes (law24_DepsDepth 101 (((8 : Int), (j : Int), ()), ()))) = true := by kernel_rfl
theorem row9 : (List.range 10).all (fun j => yes (law24_DepsDepth 101 (((9 : Int), (j : Int), ()), ()))) = true := by kernel_rfl
theorem row10 : (List.range 11).all (fun j => yes (law24_DepsDepth 101 (((10 : Int), (j : Int), ()), ()))) = true := by kernel_rfl
theorem row11 : (List.range 12).all (fun j => yes (law24_DepsDepth 101 (((11 : Int), (j : Int), ()), ()))) = true := by kernel_rfl
theorem row12 : (List.range 13).all (fun j => yes (law24_DepsDepth 101 (((12 : Int), (j : Int), ()), ()))) = true := by kernel_rfl
theorem row13 : (List.range 14).all (fun j => yes (law24_DepsDepth 101 (((13 : Int), (j : Int), ()), ()))) = true := by kernel_rfl
theorem each : ∀ i : Nat, i < 14 → (List.range (i + 1)).all (fun j => yes (law24_DepsDepth 101 (((i : Int), (j : Int), ()), ()))) = true
  | 0, _ => row0
  | 1, _ => row1
  | 2, _ => row2
  | 3, _ => row3
  | 4, _ => row4
  | 5, _ => row5
  | 6, _ => row6
  | 7, _ => row7
  | 8, _ => row8
  | 9, _ => row9
  | 10, _ => row10
  | 11, _ => row11
  | 12, _ => row12
  | 13, _ => row13
  | k + 14, h => absurd h (by omega)
theorem DepsDepth : law24_DepsDepth.Pure := by
  intro x y _ _
  refine ⟨101, ?_⟩
  have h := red (n := 100) (by omega) x y
  obtain ⟨i, hi, he⟩ := num_nat x (show (0 : Int) < 14 by omega)
  obtain ⟨j, hj, hf⟩ := num_nat y (show (0 : Int) < num x 14 + 1 by omega)
  rw [hf, he] at h
  refine Eq.trans h ?_
  have h2 := all_range (each i (by omega)) (i := j) (by omega)
  exact of_yes h2
end Go.Proofs.YtkmeghmhgbbmhaaDoor.Pure
