/- VerifyEnds, in plain words: there are but so many; each is reckoned. By this session. -/
import Derived.Test.YtnfhfbdnpfgimaaDoorVerifyEndsRows
import Derived.Test.YtnfhfbdnpfgimaaDoorCmPl
import Derived.KernelRfl
namespace Go.Proofs.YtnfhfbdnpfgimaaDoor.Pure
open Go Go.Proofs.YtnfhfbdnpfgimaaDoor.Cm
set_option linter.unusedVariables false
set_option maxRecDepth 100000
theorem number_at {n : Nat} (hn : 1 ≤ n) (x m : Int) (hm : 0 < m) (hm1 : m < 1000000) : world_Number n ((x, m, ()), ()) = some ((num x m, ()), ()) := by
  obtain ⟨n, rfl⟩ : ∃ k, n = k + 1 := ⟨n - 1, by omega⟩
  have hb := tmod_b x m hm
  simp only [world_Number]
  rw [if_neg (show ¬ m = 0 by omega)]
  unfold num
  by_cases h : Int.tmod x m < 0
  · rw [if_pos (decide_eq_true h), if_pos h, w64_id (by omega) (by omega)]
  · rw [if_neg (by simpa using h), if_neg h]
def ins (j : Nat) : Int × Int × Int × Int × Int × Int := (1, (Int.tmod (j : Int) 2, (0, (0, (0, 0)))))
theorem loop_at {n m : Nat} (hn : m < n) (hm : m < 1000) (y : Int) (b c : Bool) (o : ByteArray) (r : Int) : law22_VerifyEnds_l7 n n (((m : Int), y, b, c, (), 0, ()), ((o, (), (), r, (), (), (), ()), [], ())) = some (.inl (((m : Int), y, b, c, (), ()), ((o, (), (), r, (), (), (), ()), (List.range m).map ins, ()))) := by
  have h := for_all (F := law22_VerifyEnds_l7 n) (len := m) (fun i => (((m : Int), y, b, c, (), (i : Int), ()), ((o, (), (), r, (), (), (), ()), (List.range i).map ins, ()))) (r := some (.inl (((m : Int), y, b, c, (), ()), ((o, (), (), r, (), (), (), ()), (List.range m).map ins, ())))) (fun i k hi => by
    simp only [law22_VerifyEnds_l7]
    rw [if_pos (decide_eq_true (show (i : Int) < (m : Int) by omega)), if_pos (by simp; omega), w64_up i (by omega), List.range_succ, List.map_append]
    rfl) (fun k => by
    simp only [law22_VerifyEnds_l7]
    rw [if_neg (by simp)]) (k := n) hn
  exact h
theorem red1 {n : Nat} (hn : 1 ≤ n) (x y : Int) (b : Bool) : law22_VerifyEnds (n + 1) ((x, y, b, ()), ()) = law22_VerifyEnds (n + 1) ((num x 30, y, b, ()), ()) := by
  simp only [law22_VerifyEnds, number_at hn x 30 (by omega) (by omega), number_at hn (num x 30) 30 (by omega) (by omega), num_num x (show (0 : Int) < 30 by omega)]
theorem red2 {n m : Nat} (hn : 40 ≤ n) (hm : m < 30) (h0 : 0 < m) (y : Int) (b : Bool) : law22_VerifyEnds (n + 1) (((m : Int), y, b, ()), ()) = law22_VerifyEnds (n + 1) (((m : Int), num y m, b, ()), ()) := by
  have h1 := number_at (n := n) (by omega) (m : Int) 30 (by omega) (by omega)
  rw [num_id (by omega) (by omega)] at h1
  simp only [law22_VerifyEnds, h1, loop_at (n := n) (m := m) (by omega) (by omega), law22_VerifyEnds_c12, number_at (n := n) (by omega) y (m : Int) (by omega) (by omega), number_at (n := n) (by omega) (num y m) (m : Int) (by omega) (by omega), num_num y (show (0 : Int) < (m : Int) by omega)]
theorem red3 {n : Nat} (hn : 40 ≤ n) (y : Int) (b : Bool) : law22_VerifyEnds (n + 1) ((0, y, b, ()), ()) = law22_VerifyEnds (n + 1) ((0, 0, b, ()), ()) := by
  have h1 := number_at (n := n) (by omega) 0 30 (by omega) (by omega)
  rw [num_id (by omega) (by omega)] at h1
  have h2 := fun y c o r => loop_at (n := n) (m := 0) (by omega) (by omega) y b c o r
  simp only [Int.ofNat_zero] at h2
  have h3 : decide ((0 : Int) > 0) = false := by decide
  simp only [law22_VerifyEnds, h1]
  cases law22_first n ((), ()) with
  | none => rfl
  | some a =>
    obtain ⟨⟨a, _⟩, _⟩ := a
    cases a with
    | false => rfl
    | true =>
      simp only [Bool.not_true, Bool.false_eq_true, if_false]
      rw [h2 y, h2 0]
      simp only [law22_VerifyEnds_c12, h3, Bool.false_eq_true, if_false]
theorem each {i : Nat} (h : i < 30) : row i = true := by
  match i, h with
  | 0, _ => exact row0
  | 1, _ => exact row1
  | 2, _ => exact row2
  | 3, _ => exact row3
  | 4, _ => exact row4
  | 5, _ => exact row5
  | 6, _ => exact row6
  | 7, _ => exact row7
  | 8, _ => exact row8
  | 9, _ => exact row9
  | 10, _ => exact row10
  | 11, _ => exact row11
  | 12, _ => exact row12
  | 13, _ => exact row13
  | 14, _ => exact row14
  | 15, _ => exact row15
  | 16, _ => exact row16
  | 17, _ => exact row17
  | 18, _ => exact row18
  | 19, _ => exact row19
  | 20, _ => exact row20
  | 21, _ => exact row21
  | 22, _ => exact row22
  | 23, _ => exact row23
  | 24, _ => exact row24
  | 25, _ => exact row25
  | 26, _ => exact row26
  | 27, _ => exact row27
  | 28, _ => exact row28
  | 29, _ => exact row29
  | k + 30, h => exact absurd h (by omega)
theorem of_one {i j : Nat} (h : one i j = true) (b : Bool) : law22_VerifyEnds 61 (((i : Int), (j : Int), b, ()), ()) = some ((true, ()), ()) := by
  unfold one at h
  rw [Bool.and_eq_true] at h
  cases b with
  | true => exact of_yes h.1
  | false => exact of_yes h.2
theorem VerifyEnds : law22_VerifyEnds.Pure := by
  intro x y b _ _ _
  refine ⟨61, ?_⟩
  have h := red1 (n := 60) (by omega) x y b
  obtain ⟨i, hi, ei⟩ := num_nat x (show (0 : Int) < 30 by omega)
  rw [ei] at h
  refine h.trans ?_
  have he : (List.range (max i 1)).all (fun j => one i j) = true := each (i := i) (by omega)
  by_cases h0 : i = 0
  · subst h0
    refine (red3 (n := 60) (by omega) y b).trans ?_
    exact of_one (all_range he (i := 0) (by omega)) b
  · have h2 := red2 (n := 60) (m := i) (by omega) (by omega) (by omega) y b
    obtain ⟨j, hj, ej⟩ := num_nat y (show (0 : Int) < (i : Int) by omega)
    rw [ej] at h2
    exact h2.trans (of_one (all_range he (i := j) (by omega)) b)
end Go.Proofs.YtnfhfbdnpfgimaaDoor.Pure
