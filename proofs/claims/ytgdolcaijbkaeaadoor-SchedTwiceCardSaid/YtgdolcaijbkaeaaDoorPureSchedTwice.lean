/- SchedTwice, in plain words: there are but so many. By this session. -/
import Derived.Test.YtgdolcaijbkaeaaDoorSchedTwiceR0
import Derived.Test.YtgdolcaijbkaeaaDoorSchedTwiceR1
import Derived.Test.YtgdolcaijbkaeaaDoorSchedTwiceR2
import Derived.Test.YtgdolcaijbkaeaaDoorSchedTwiceR3
import Derived.Test.YtgdolcaijbkaeaaDoorSchedTwiceR4
import Derived.Test.YtgdolcaijbkaeaaDoorCmPl
import Derived.KernelRfl
namespace Go.Proofs.YtgdolcaijbkaeaaDoor.Pure
open Go Go.Proofs.YtgdolcaijbkaeaaDoor.Cm
set_option maxRecDepth 100000
set_option linter.unusedVariables false
theorem s0 : ∀ a : Nat, a < 2 → (List.range 2).all (fun b => yes (law18_SchedTwice 101 (((0 : Int), (a : Int), (b : Int), ()), ()))) = true
  | 0, _ => e0_0
  | 1, _ => e0_1
  | a + 2, h => absurd h (by omega)
theorem s1 : ∀ a : Nat, a < 3 → (List.range 3).all (fun b => yes (law18_SchedTwice 101 (((1 : Int), (a : Int), (b : Int), ()), ()))) = true
  | 0, _ => e1_0
  | 1, _ => e1_1
  | 2, _ => e1_2
  | a + 3, h => absurd h (by omega)
theorem s2 : ∀ a : Nat, a < 4 → (List.range 4).all (fun b => yes (law18_SchedTwice 101 (((2 : Int), (a : Int), (b : Int), ()), ()))) = true
  | 0, _ => e2_0
  | 1, _ => e2_1
  | 2, _ => e2_2
  | 3, _ => e2_3
  | a + 4, h => absurd h (by omega)
theorem s3 : ∀ a : Nat, a < 5 → (List.range 5).all (fun b => yes (law18_SchedTwice 101 (((3 : Int), (a : Int), (b : Int), ()), ()))) = true
  | 0, _ => e3_0
  | 1, _ => e3_1
  | 2, _ => e3_2
  | 3, _ => e3_3
  | 4, _ => e3_4
  | a + 5, h => absurd h (by omega)
theorem s4 : ∀ a : Nat, a < 6 → (List.range 6).all (fun b => yes (law18_SchedTwice 101 (((4 : Int), (a : Int), (b : Int), ()), ()))) = true
  | 0, _ => e4_0
  | 1, _ => e4_1
  | 2, _ => e4_2
  | 3, _ => e4_3
  | 4, _ => e4_4
  | 5, _ => e4_5
  | a + 6, h => absurd h (by omega)
theorem s5 : ∀ a : Nat, a < 7 → (List.range 7).all (fun b => yes (law18_SchedTwice 101 (((5 : Int), (a : Int), (b : Int), ()), ()))) = true
  | 0, _ => e5_0
  | 1, _ => e5_1
  | 2, _ => e5_2
  | 3, _ => e5_3
  | 4, _ => e5_4
  | 5, _ => e5_5
  | 6, _ => e5_6
  | a + 7, h => absurd h (by omega)
theorem s6 : ∀ a : Nat, a < 8 → (List.range 8).all (fun b => yes (law18_SchedTwice 101 (((6 : Int), (a : Int), (b : Int), ()), ()))) = true
  | 0, _ => e6_0
  | 1, _ => e6_1
  | 2, _ => e6_2
  | 3, _ => e6_3
  | 4, _ => e6_4
  | 5, _ => e6_5
  | 6, _ => e6_6
  | 7, _ => e6_7
  | a + 8, h => absurd h (by omega)
theorem s7 : ∀ a : Nat, a < 9 → (List.range 9).all (fun b => yes (law18_SchedTwice 101 (((7 : Int), (a : Int), (b : Int), ()), ()))) = true
  | 0, _ => e7_0
  | 1, _ => e7_1
  | 2, _ => e7_2
  | 3, _ => e7_3
  | 4, _ => e7_4
  | 5, _ => e7_5
  | 6, _ => e7_6
  | 7, _ => e7_7
  | 8, _ => e7_8
  | a + 9, h => absurd h (by omega)
theorem s8 : ∀ a : Nat, a < 10 → (List.range 10).all (fun b => yes (law18_SchedTwice 101 (((8 : Int), (a : Int), (b : Int), ()), ()))) = true
  | 0, _ => e8_0
  | 1, _ => e8_1
  | 2, _ => e8_2
  | 3, _ => e8_3
  | 4, _ => e8_4
  | 5, _ => e8_5
  | 6, _ => e8_6
  | 7, _ => e8_7
  | 8, _ => e8_8
  | 9, _ => e8_9
  | a + 10, h => absurd h (by omega)
theorem s9 : ∀ a : Nat, a < 11 → (List.range 11).all (fun b => yes (law18_SchedTwice 101 (((9 : Int), (a : Int), (b : Int), ()), ()))) = true
  | 0, _ => e9_0
  | 1, _ => e9_1
  | 2, _ => e9_2
  | 3, _ => e9_3
  | 4, _ => e9_4
  | 5, _ => e9_5
  | 6, _ => e9_6
  | 7, _ => e9_7
  | 8, _ => e9_8
  | 9, _ => e9_9
  | 10, _ => e9_10
  | a + 11, h => absurd h (by omega)
theorem s10 : ∀ a : Nat, a < 12 → (List.range 12).all (fun b => yes (law18_SchedTwice 101 (((10 : Int), (a : Int), (b : Int), ()), ()))) = true
  | 0, _ => e10_0
  | 1, _ => e10_1
  | 2, _ => e10_2
  | 3, _ => e10_3
  | 4, _ => e10_4
  | 5, _ => e10_5
  | 6, _ => e10_6
  | 7, _ => e10_7
  | 8, _ => e10_8
  | 9, _ => e10_9
  | 10, _ => e10_10
  | 11, _ => e10_11
  | a + 12, h => absurd h (by omega)
theorem s11 : ∀ a : Nat, a < 13 → (List.range 13).all (fun b => yes (law18_SchedTwice 101 (((11 : Int), (a : Int), (b : Int), ()), ()))) = true
  | 0, _ => e11_0
  | 1, _ => e11_1
  | 2, _ => e11_2
  | 3, _ => e11_3
  | 4, _ => e11_4
  | 5, _ => e11_5
  | 6, _ => e11_6
  | 7, _ => e11_7
  | 8, _ => e11_8
  | 9, _ => e11_9
  | 10, _ => e11_10
  | 11, _ => e11_11
  | 12, _ => e11_12
  | a + 13, h => absurd h (by omega)
theorem s12 : ∀ a : Nat, a < 14 → (List.range 14).all (fun b => yes (law18_SchedTwice 101 (((12 : Int), (a : Int), (b : Int), ()), ()))) = true
  | 0, _ => e12_0
  | 1, _ => e12_1
  | 2, _ => e12_2
  | 3, _ => e12_3
  | 4, _ => e12_4
  | 5, _ => e12_5
  | 6, _ => e12_6
  | 7, _ => e12_7
  | 8, _ => e12_8
  | 9, _ => e12_9
  | 10, _ => e12_10
  | 11, _ => e12_11
  | 12, _ => e12_12
  | 13, _ => e12_13
  | a + 14, h => absurd h (by omega)
theorem s13 : ∀ a : Nat, a < 15 → (List.range 15).all (fun b => yes (law18_SchedTwice 101 (((13 : Int), (a : Int), (b : Int), ()), ()))) = true
  | 0, _ => e13_0
  | 1, _ => e13_1
  | 2, _ => e13_2
  | 3, _ => e13_3
  | 4, _ => e13_4
  | 5, _ => e13_5
  | 6, _ => e13_6
  | 7, _ => e13_7
  | 8, _ => e13_8
  | 9, _ => e13_9
  | 10, _ => e13_10
  | 11, _ => e13_11
  | 12, _ => e13_12
  | 13, _ => e13_13
  | 14, _ => e13_14
  | a + 15, h => absurd h (by omega)
theorem s14 : ∀ a : Nat, a < 16 → (List.range 16).all (fun b => yes (law18_SchedTwice 101 (((14 : Int), (a : Int), (b : Int), ()), ()))) = true
  | 0, _ => e14_0
  | 1, _ => e14_1
  | 2, _ => e14_2
  | 3, _ => e14_3
  | 4, _ => e14_4
  | 5, _ => e14_5
  | 6, _ => e14_6
  | 7, _ => e14_7
  | 8, _ => e14_8
  | 9, _ => e14_9
  | 10, _ => e14_10
  | 11, _ => e14_11
  | 12, _ => e14_12
  | 13, _ => e14_13
  | 14, _ => e14_14
  | 15, _ => e14_15
  | a + 16, h => absurd h (by omega)
theorem s15 : ∀ a : Nat, a < 17 → (List.range 17).all (fun b => yes (law18_SchedTwice 101 (((15 : Int), (a : Int), (b : Int), ()), ()))) = true
  | 0, _ => e15_0
  | 1, _ => e15_1
  | 2, _ => e15_2
  | 3, _ => e15_3
  | 4, _ => e15_4
  | 5, _ => e15_5
  | 6, _ => e15_6
  | 7, _ => e15_7
  | 8, _ => e15_8
  | 9, _ => e15_9
  | 10, _ => e15_10
  | 11, _ => e15_11
  | 12, _ => e15_12
  | 13, _ => e15_13
  | 14, _ => e15_14
  | 15, _ => e15_15
  | 16, _ => e15_16
  | a + 17, h => absurd h (by omega)
theorem s16 : ∀ a : Nat, a < 18 → (List.range 18).all (fun b => yes (law18_SchedTwice 101 (((16 : Int), (a : Int), (b : Int), ()), ()))) = true
  | 0, _ => e16_0
  | 1, _ => e16_1
  | 2, _ => e16_2
  | 3, _ => e16_3
  | 4, _ => e16_4
  | 5, _ => e16_5
  | 6, _ => e16_6
  | 7, _ => e16_7
  | 8, _ => e16_8
  | 9, _ => e16_9
  | 10, _ => e16_10
  | 11, _ => e16_11
  | 12, _ => e16_12
  | 13, _ => e16_13
  | 14, _ => e16_14
  | 15, _ => e16_15
  | 16, _ => e16_16
  | 17, _ => e16_17
  | a + 18, h => absurd h (by omega)
theorem s17 : ∀ a : Nat, a < 19 → (List.range 19).all (fun b => yes (law18_SchedTwice 101 (((17 : Int), (a : Int), (b : Int), ()), ()))) = true
  | 0, _ => e17_0
  | 1, _ => e17_1
  | 2, _ => e17_2
  | 3, _ => e17_3
  | 4, _ => e17_4
  | 5, _ => e17_5
  | 6, _ => e17_6
  | 7, _ => e17_7
  | 8, _ => e17_8
  | 9, _ => e17_9
  | 10, _ => e17_10
  | 11, _ => e17_11
  | 12, _ => e17_12
  | 13, _ => e17_13
  | 14, _ => e17_14
  | 15, _ => e17_15
  | 16, _ => e17_16
  | 17, _ => e17_17
  | 18, _ => e17_18
  | a + 19, h => absurd h (by omega)
theorem s18 : ∀ a : Nat, a < 20 → (List.range 20).all (fun b => yes (law18_SchedTwice 101 (((18 : Int), (a : Int), (b : Int), ()), ()))) = true
  | 0, _ => e18_0
  | 1, _ => e18_1
  | 2, _ => e18_2
  | 3, _ => e18_3
  | 4, _ => e18_4
  | 5, _ => e18_5
  | 6, _ => e18_6
  | 7, _ => e18_7
  | 8, _ => e18_8
  | 9, _ => e18_9
  | 10, _ => e18_10
  | 11, _ => e18_11
  | 12, _ => e18_12
  | 13, _ => e18_13
  | 14, _ => e18_14
  | 15, _ => e18_15
  | 16, _ => e18_16
  | 17, _ => e18_17
  | 18, _ => e18_18
  | 19, _ => e18_19
  | a + 20, h => absurd h (by omega)
theorem s19 : ∀ a : Nat, a < 21 → (List.range 21).all (fun b => yes (law18_SchedTwice 101 (((19 : Int), (a : Int), (b : Int), ()), ()))) = true
  | 0, _ => e19_0
  | 1, _ => e19_1
  | 2, _ => e19_2
  | 3, _ => e19_3
  | 4, _ => e19_4
  | 5, _ => e19_5
  | 6, _ => e19_6
  | 7, _ => e19_7
  | 8, _ => e19_8
  | 9, _ => e19_9
  | 10, _ => e19_10
  | 11, _ => e19_11
  | 12, _ => e19_12
  | 13, _ => e19_13
  | 14, _ => e19_14
  | 15, _ => e19_15
  | 16, _ => e19_16
  | 17, _ => e19_17
  | 18, _ => e19_18
  | 19, _ => e19_19
  | 20, _ => e19_20
  | a + 21, h => absurd h (by omega)
theorem each : ∀ i : Nat, i < 20 → ∀ a : Nat, a < i + 2 → (List.range (i + 2)).all (fun b => yes (law18_SchedTwice 101 (((i : Int), (a : Int), (b : Int), ()), ()))) = true
  | 0, _ => s0
  | 1, _ => s1
  | 2, _ => s2
  | 3, _ => s3
  | 4, _ => s4
  | 5, _ => s5
  | 6, _ => s6
  | 7, _ => s7
  | 8, _ => s8
  | 9, _ => s9
  | 10, _ => s10
  | 11, _ => s11
  | 12, _ => s12
  | 13, _ => s13
  | 14, _ => s14
  | 15, _ => s15
  | 16, _ => s16
  | 17, _ => s17
  | 18, _ => s18
  | 19, _ => s19
  | i + 20, h => absurd h (by omega)
theorem number_at {n : Nat} (hn : 1 ≤ n) (x m : Int) (hm : 0 < m) (hm1 : m < 1000000) : world_Number n ((x, m, ()), ()) = some ((num x m, ()), ()) := by
  obtain ⟨n, rfl⟩ : ∃ k, n = k + 1 := ⟨n - 1, by omega⟩
  have hb := tmod_b x m hm
  simp only [world_Number]
  rw [if_neg (show ¬ m = 0 by omega)]
  unfold num
  by_cases h : Int.tmod x m < 0
  · rw [if_pos (decide_eq_true h), if_pos h, w64_id (by omega) (by omega)]
  · rw [if_neg (by simpa using h), if_neg h]
theorem red {n : Nat} (hn : 1 ≤ n) (x y z : Int) : law18_SchedTwice (n + 1) ((x, y, z, ()), ()) = law18_SchedTwice (n + 1) ((num x 20, num y (num x 20 + 2), num z (num x 20 + 2), ()), ()) := by
  have h0 := num_range x (show (0 : Int) < 20 by omega)
  have hw : IntKind.i64.wrap (num x 20 + 2) = num x 20 + 2 := w64_id (by omega) (by omega)
  have hp : (0 : Int) < num x 20 + 2 := by omega
  have hq : num x 20 + 2 < 1000000 := by omega
  simp only [law18_SchedTwice, number_at hn x 20 (by omega) (by omega), number_at hn (num x 20) 20 (by omega) (by omega), num_num x (show (0 : Int) < 20 by omega), hw, number_at hn y (num x 20 + 2) hp hq,
    number_at hn (num y (num x 20 + 2)) (num x 20 + 2) hp hq, num_num y hp, number_at hn z (num x 20 + 2) hp hq, number_at hn (num z (num x 20 + 2)) (num x 20 + 2) hp hq, num_num z hp]
theorem SchedTwice : law18_SchedTwice.Pure := by
  intro x y z _ _ _
  refine ⟨101, ?_⟩
  have h := red (n := 100) (by omega) x y z
  have h0 := num_range x (show (0 : Int) < 20 by omega)
  obtain ⟨i, hi, he⟩ := num_nat x (show (0 : Int) < 20 by omega)
  obtain ⟨j, hj, hf⟩ := num_nat y (show (0 : Int) < num x 20 + 2 by omega)
  obtain ⟨k, hk, hg⟩ := num_nat z (show (0 : Int) < num x 20 + 2 by omega)
  rw [hf, hg, he] at h
  exact h.trans (of_yes (all_range (each i (by omega) j (by omega)) (i := k) (by omega)))
end Go.Proofs.YtgdolcaijbkaeaaDoor.Pure
