/- DiskArms: what is reckoned. By this session. -/
import Derived.Test.YtgpoomkbkckbaaaDoorCDiskArmsR
import Derived.Test.YtgpoomkbkckbaaaDoorCmPl
import Derived.KernelRfl
namespace Go.Proofs.YtgpoomkbkckbaaaDoor.Pure
open Go Go.Proofs.YtgpoomkbkckbaaaDoor.Cm
set_option linter.unusedVariables false
set_option maxRecDepth 100000
theorem number_at {n : Nat} (hn : 1 ≤ n) (x m : Int) (hm : 0 < m) (hm1 : m < 1000000) : world_Number n ((x, m, ()), ()) = some ((num x m, ()), ()) := by
  obtain ⟨n, rfl⟩ : ∃ k, n = k + 1 := ⟨n - 1, by omega⟩
  have hb := tmod_b x m hm
  simp only [world_Number]
  rw [if_neg (show ¬ m = 0 by omega)]
  unfold num
  by_cases h : Int.tmod x m < 0
  · rw [if_pos (decide_eq_true h), if_pos h, w64_id (by omega) (by omega)]
  · rw [if_neg (by simpa using h), if_neg h]
theorem red {n : Nat} (hn : 1 ≤ n) (x y : Int) : law3_DiskArms (n + 1) ((x, y, ()), ()) = law3_DiskArms (n + 1) ((num x 30, num y 30, ()), ()) := by
  simp only [law3_DiskArms, number_at hn x 30 (by omega) (by omega), number_at hn (num x 30) 30 (by omega) (by omega), num_num x (show (0 : Int) < 30 by omega), number_at hn y 30 (by omega) (by omega), number_at hn (num y 30) 30 (by omega) (by omega), num_num y (show (0 : Int) < 30 by omega)]
def row (i : Nat) : Bool := (List.range 30).all fun j => yes (law3_DiskArms 101 (((i : Int), (j : Int), ()), ()))
end Go.Proofs.YtgpoomkbkckbaaaDoor.Pure
