/- VerifyBounds: each one reckoned. By this session. -/
import Derived.Test.YtnfhfbdnpfgimaaDoorVerifyBoundsRows
import Derived.Test.YtnfhfbdnpfgimaaDoorCmPl
import Derived.KernelRfl
namespace Go.Proofs.YtnfhfbdnpfgimaaDoor.Pure
open Go Go.Proofs.YtnfhfbdnpfgimaaDoor.Cm
set_option linter.unusedVariables false
set_option maxRecDepth 100000
theorem each0_0 : one 0 0 = true := by kernel_rfl
theorem each0_1 : one 0 1 = true := by kernel_rfl
theorem each0_2 : one 0 2 = true := by kernel_rfl
theorem each0_3 : one 0 3 = true := by kernel_rfl
theorem each0_4 : one 0 4 = true := by kernel_rfl
theorem each0_5 : one 0 5 = true := by kernel_rfl
theorem each0_6 : one 0 6 = true := by kernel_rfl
theorem each0_7 : one 0 7 = true := by kernel_rfl
theorem each0_8 : one 0 8 = true := by kernel_rfl
end Go.Proofs.YtnfhfbdnpfgimaaDoor.Pure
