/- VerifyEnds: each one reckoned. By this session. -/
import Derived.Test.YtnfhfbdnpfgimaaDoorCVerifyEndsR
import Derived.Test.YtnfhfbdnpfgimaaDoorCmPl
import Derived.KernelRfl
namespace Go.Proofs.YtnfhfbdnpfgimaaDoor.Pure
open Go Go.Proofs.YtnfhfbdnpfgimaaDoor.Cm
set_option linter.unusedVariables false
set_option maxRecDepth 100000
def one (i j : Nat) : Bool := yes (law22_VerifyEnds 61 (((i : Int), (j : Int), true, ()), ())) && yes (law22_VerifyEnds 61 (((i : Int), (j : Int), false, ()), ()))
def row (i : Nat) : Bool := (List.range (max i 1)).all fun j => one i j
theorem row0 : row 0 = true := by kernel_rfl
theorem row1 : row 1 = true := by kernel_rfl
theorem row2 : row 2 = true := by kernel_rfl
theorem row3 : row 3 = true := by kernel_rfl
theorem row4 : row 4 = true := by kernel_rfl
theorem row5 : row 5 = true := by kernel_rfl
theorem row6 : row 6 = true := by kernel_rfl
theorem row7 : row 7 = true := by kernel_rfl
theorem row8 : row 8 = true := by kernel_rfl
theorem row9 : row 9 = true := by kernel_rfl
theorem row10 : row 10 = true := by kernel_rfl
theorem row11 : row 11 = true := by kernel_rfl
theorem row12 : row 12 = true := by kernel_rfl
theorem row13 : row 13 = true := by kernel_rfl
theorem row14 : row 14 = true := by kernel_rfl
theorem row15 : row 15 = true := by kernel_rfl
theorem row16 : row 16 = true := by kernel_rfl
theorem row17 : row 17 = true := by kernel_rfl
theorem row18 : row 18 = true := by kernel_rfl
theorem row19 : row 19 = true := by kernel_rfl
theorem row20 : row 20 = true := by kernel_rfl
theorem row21 : row 21 = true := by kernel_rfl
theorem row22 : row 22 = true := by kernel_rfl
theorem row23 : row 23 = true := by kernel_rfl
theorem row24 : row 24 = true := by kernel_rfl
theorem row25 : row 25 = true := by kernel_rfl
theorem row26 : row 26 = true := by kernel_rfl
theorem row27 : row 27 = true := by kernel_rfl
theorem row28 : row 28 = true := by kernel_rfl
theorem row29 : row 29 = true := by kernel_rfl
end Go.Proofs.YtnfhfbdnpfgimaaDoor.Pure
