/- LayTowers, in plain words: there are but so many. By this session. -/
import Derived.Test.YtkoeofaeigchpaaDoorLayTowersR0
import Derived.Test.YtkoeofaeigchpaaDoorLayTowersR1
import Derived.Test.YtkoeofaeigchpaaDoorLayTowersR2
import Derived.Test.YtkoeofaeigchpaaDoorLayTowersR3
import Derived.Test.YtkoeofaeigchpaaDoorLayTowersR4
import Derived.Test.YtkoeofaeigchpaaDoorLayTowersR5
import Derived.Test.YtkoeofaeigchpaaDoorLayTowersR6
import Derived.Test.YtkoeofaeigchpaaDoorLayTowersR7
import Derived.Test.YtkoeofaeigchpaaDoorLayTowersR8
import Derived.Test.YtkoeofaeigchpaaDoorLayTowersR9
import Derived.Test.YtkoeofaeigchpaaDoorCmPl
import Derived.KernelRfl
namespace Go.Proofs.YtkoeofaeigchpaaDoor.Pure
open Go Go.Proofs.YtkoeofaeigchpaaDoor.Cm
set_option maxRecDepth 100000
theorem q0 : ∀ w : Nat, w < 4 → (List.range 6).all (fun c => yes (law20_LayTowers 101 (((0 : Int), (w : Int), (c : Int), ()), ()))) = true
  | 0, _ => r00
  | 1, _ => r01
  | 2, _ => r02
  | 3, _ => r03
  | w + 4, h => absurd h (by omega)
theorem q1 : ∀ w : Nat, w < 4 → (List.range 6).all (fun c => yes (law20_LayTowers 101 (((1 : Int), (w : Int), (c : Int), ()), ()))) = true
  | 0, _ => r10
  | 1, _ => r11
  | 2, _ => r12
  | 3, _ => r13
  | w + 4, h => absurd h (by omega)
theorem q2 : ∀ w : Nat, w < 4 → (List.range 6).all (fun c => yes (law20_LayTowers 101 (((2 : Int), (w : Int), (c : Int), ()), ()))) = true
  | 0, _ => r20
  | 1, _ => r21
  | 2, _ => r22
  | 3, _ => r23
  | w + 4, h => absurd h (by omega)
theorem q3 : ∀ w : Nat, w < 4 → (List.range 6).all (fun c => yes (law20_LayTowers 101 (((3 : Int), (w : Int), (c : Int), ()), ()))) = true
  | 0, _ => r30
  | 1, _ => r31
  | 2, _ => r32
  | 3, _ => r33
  | w + 4, h => absurd h (by omega)
theorem r43 : (List.range 6).all (fun c => yes (law20_LayTowers 101 (((4 : Int), (3 : Int), (c : Int), ()), ()))) = true := by
  rw [List.all_eq_true]
  intro c hc
  have := List.mem_range.1 hc
  match c, this with
  | 0, _ => exact e430
  | 1, _ => exact e431
  | 2, _ => exact e432
  | 3, _ => exact e433
  | 4, _ => exact e434
  | 5, _ => exact e435
  | c + 6, h => exact absurd h (by omega)
theorem q4 : ∀ w : Nat, w < 4 → (List.range 6).all (fun c => yes (law20_LayTowers 101 (((4 : Int), (w : Int), (c : Int), ()), ()))) = true
  | 0, _ => r40
  | 1, _ => r41
  | 2, _ => r42
  | 3, _ => r43
  | w + 4, h => absurd h (by omega)
theorem r53 : (List.range 6).all (fun c => yes (law20_LayTowers 101 (((5 : Int), (3 : Int), (c : Int), ()), ()))) = true := by
  rw [List.all_eq_true]
  intro c hc
  have := List.mem_range.1 hc
  match c, this with
  | 0, _ => exact e530
  | 1, _ => exact e531
  | 2, _ => exact e532
  | 3, _ => exact e533
  | 4, _ => exact e534
  | 5, _ => exact e535
  | c + 6, h => exact absurd h (by omega)
theorem q5 : ∀ w : Nat, w < 4 → (List.range 6).all (fun c => yes (law20_LayTowers 101 (((5 : Int), (w : Int), (c : Int), ()), ()))) = true
  | 0, _ => r50
  | 1, _ => r51
  | 2, _ => r52
  | 3, _ => r53
  | w + 4, h => absurd h (by omega)
theorem r62 : (List.range 6).all (fun c => yes (law20_LayTowers 101 (((6 : Int), (2 : Int), (c : Int), ()), ()))) = true := by
  rw [List.all_eq_true]
  intro c hc
  have := List.mem_range.1 hc
  match c, this with
  | 0, _ => exact e620
  | 1, _ => exact e621
  | 2, _ => exact e622
  | 3, _ => exact e623
  | 4, _ => exact e624
  | 5, _ => exact e625
  | c + 6, h => exact absurd h (by omega)
theorem r63 : (List.range 6).all (fun c => yes (law20_LayTowers 101 (((6 : Int), (3 : Int), (c : Int), ()), ()))) = true := by
  rw [List.all_eq_true]
  intro c hc
  have := List.mem_range.1 hc
  match c, this with
  | 0, _ => exact e630
  | 1, _ => exact e631
  | 2, _ => exact e632
  | 3, _ => exact e633
  | 4, _ => exact e634
  | 5, _ => exact e635
  | c + 6, h => exact absurd h (by omega)
theorem q6 : ∀ w : Nat, w < 4 → (List.range 6).all (fun c => yes (law20_LayTowers 101 (((6 : Int), (w : Int), (c : Int), ()), ()))) = true
  | 0, _ => r60
  | 1, _ => r61
  | 2, _ => r62
  | 3, _ => r63
  | w + 4, h => absurd h (by omega)
theorem r72 : (List.range 6).all (fun c => yes (law20_LayTowers 101 (((7 : Int), (2 : Int), (c : Int), ()), ()))) = true := by
  rw [List.all_eq_true]
  intro c hc
  have := List.mem_range.1 hc
  match c, this with
  | 0, _ => exact e720
  | 1, _ => exact e721
  | 2, _ => exact e722
  | 3, _ => exact e723
  | 4, _ => exact e724
  | 5, _ => exact e725
  | c + 6, h => exact absurd h (by omega)
theorem r73 : (List.range 6).all (fun c => yes (law20_LayTowers 101 (((7 : Int), (3 : Int), (c : Int), ()), ()))) = true := by
  rw [List.all_eq_true]
  intro c hc
  have := List.mem_range.1 hc
  match c, this with
  | 0, _ => exact e730
  | 1, _ => exact e731
  | 2, _ => exact e732
  | 3, _ => exact e733
  | 4, _ => exact e734
  | 5, _ => exact e735
  | c + 6, h => exact absurd h (by omega)
theorem q7 : ∀ w : Nat, w < 4 → (List.range 6).all (fun c => yes (law20_LayTowers 101 (((7 : Int), (w : Int), (c : Int), ()), ()))) = true
  | 0, _ => r70
  | 1, _ => r71
  | 2, _ => r72
  | 3, _ => r73
  | w + 4, h => absurd h (by omega)
theorem q8 : ∀ w : Nat, w < 4 → (List.range 6).all (fun c => yes (law20_LayTowers 101 (((8 : Int), (w : Int), (c : Int), ()), ()))) = true
  | 0, _ => r80
  | 1, _ => r81
  | 2, _ => r82
  | 3, _ => r83
  | w + 4, h => absurd h (by omega)
theorem q9 : ∀ w : Nat, w < 4 → (List.range 6).all (fun c => yes (law20_LayTowers 101 (((9 : Int), (w : Int), (c : Int), ()), ()))) = true
  | 0, _ => r90
  | 1, _ => r91
  | 2, _ => r92
  | 3, _ => r93
  | w + 4, h => absurd h (by omega)
theorem each : ∀ d : Nat, d < 10 → ∀ w : Nat, w < 4 → (List.range 6).all (fun c => yes (law20_LayTowers 101 (((d : Int), (w : Int), (c : Int), ()), ()))) = true
  | 0, _ => q0
  | 1, _ => q1
  | 2, _ => q2
  | 3, _ => q3
  | 4, _ => q4
  | 5, _ => q5
  | 6, _ => q6
  | 7, _ => q7
  | 8, _ => q8
  | 9, _ => q9
  | d + 10, h => absurd h (by omega)
theorem number_at {n : Nat} (hn : 1 ≤ n) (x m : Int) (hm : 0 < m) (hm1 : m < 1000000) : world_Number n ((x, m, ()), ()) = some ((num x m, ()), ()) := by
  obtain ⟨n, rfl⟩ : ∃ k, n = k + 1 := ⟨n - 1, by omega⟩
  have hb := tmod_b x m hm
  simp only [world_Number]
  rw [if_neg (show ¬ m = 0 by omega)]
  unfold num
  by_cases h : Int.tmod x m < 0
  · rw [if_pos (decide_eq_true h), if_pos h, w64_id (by omega) (by omega)]
  · rw [if_neg (by simpa using h), if_neg h]
theorem red {n : Nat} (hn : 1 ≤ n) (x y z : Int) : law20_LayTowers (n + 1) ((x, y, z, ()), ()) = law20_LayTowers (n + 1) ((num x 10, num y 4, num z 6, ()), ()) := by
  simp only [law20_LayTowers, number_at hn x 10 (by omega) (by omega), number_at hn (num x 10) 10 (by omega) (by omega), num_num x (show (0 : Int) < 10 by omega),
    number_at hn y 4 (by omega) (by omega), number_at hn (num y 4) 4 (by omega) (by omega), num_num y (show (0 : Int) < 4 by omega), number_at hn z 6 (by omega) (by omega), number_at hn (num z 6) 6 (by omega) (by omega), num_num z (show (0 : Int) < 6 by omega)]
theorem LayTowers : law20_LayTowers.Pure := by
  intro x y z _ _ _
  refine ⟨101, ?_⟩
  have h := red (n := 100) (by omega) x y z
  obtain ⟨i, hi, he⟩ := num_nat x (show (0 : Int) < 10 by omega)
  obtain ⟨j, hj, hf⟩ := num_nat y (show (0 : Int) < 4 by omega)
  obtain ⟨k, hk, hg⟩ := num_nat z (show (0 : Int) < 6 by omega)
  rw [he, hf, hg] at h
  exact h.trans (of_yes (all_range (each i (by omega) j (by omega)) (i := k) (by omega)))
end Go.Proofs.YtkoeofaeigchpaaDoor.Pure
