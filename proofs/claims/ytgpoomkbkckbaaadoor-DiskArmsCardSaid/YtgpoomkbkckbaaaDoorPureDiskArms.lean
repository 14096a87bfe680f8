/- DiskArms, in plain words: there are but so many; each is reckoned. By this session. -/
import Derived.Test.YtgpoomkbkckbaaaDoorDiskArmsR0
import Derived.Test.YtgpoomkbkckbaaaDoorDiskArmsR1
import Derived.Test.YtgpoomkbkckbaaaDoorDiskArmsR2
import Derived.Test.YtgpoomkbkckbaaaDoorDiskArmsR3
import Derived.Test.YtgpoomkbkckbaaaDoorDiskArmsR4
namespace Go.Proofs.YtgpoomkbkckbaaaDoor.Pure
open Go Go.Proofs.YtgpoomkbkckbaaaDoor.Cm
set_option linter.unusedVariables false
set_option maxRecDepth 100000
theorem each {i : Nat} (h : i < 30) : row i = true := by
  match i, h with
  | 0, _ => exact row0
  | 1, _ => exact row1
  | 2, _ => exact row2
  | 3, _ => exact row3
  | 4, _ => exact row4
  | 5, _ => exact row5
  | 6, _ => exact row6
  | 7, _ => exact row7
  | 8, _ => exact row8
  | 9, _ => exact row9
  | 10, _ => exact row10
  | 11, _ => exact row11
  | 12, _ => exact row12
  | 13, _ => exact row13
  | 14, _ => exact row14
  | 15, _ => exact row15
  | 16, _ => exact row16
  | 17, _ => exact row17
  | 18, _ => exact row18
  | 19, _ => exact row19
  | 20, _ => exact row20
  | 21, _ => exact row21
  | 22, _ => exact row22
  | 23, _ => exact row23
  | 24, _ => exact row24
  | 25, _ => exact row25
  | 26, _ => exact row26
  | 27, _ => exact row27
  | 28, _ => exact row28
  | 29, _ => exact row29
  | i + 30, h => exact absurd h (by omega)
theorem DiskArms : law3_DiskArms.Pure := by
  intro x y g0 g1
  refine ⟨100 + 1, ?_⟩
  obtain ⟨i, hi, ei⟩ := num_nat x (show (0 : Int) < 30 by omega)
  obtain ⟨j, hj, ej⟩ := num_nat y (show (0 : Int) < 30 by omega)
  rw [red (by omega)]
  rw [ei, ej]
  have h := each (i := i) (by omega)
  exact of_yes (all_range h (by omega))
end Go.Proofs.YtgpoomkbkckbaaaDoor.Pure
