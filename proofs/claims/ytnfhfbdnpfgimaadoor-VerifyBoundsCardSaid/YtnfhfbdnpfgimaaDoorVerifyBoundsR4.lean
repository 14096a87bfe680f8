/- VerifyBounds: each one reckoned. By this session. -/
import Derived.Test.YtnfhfbdnpfgimaaDoorVerifyBoundsRows
import Derived.Test.YtnfhfbdnpfgimaaDoorCmPl
import Derived.KernelRfl
namespace Go.Proofs.YtnfhfbdnpfgimaaDoor.Pure
open Go Go.Proofs.YtnfhfbdnpfgimaaDoor.Cm
set_option linter.unusedVariables false
set_option maxRecDepth 100000
theorem each4_0 : one 4 0 = true := by kernel_rfl
theorem each4_1 : one 4 1 = true := by kernel_rfl
theorem each4_2 : one 4 2 = true := by kernel_rfl
theorem each4_3 : one 4 3 = true := by kernel_rfl
theorem each4_4 : one 4 4 = true := by kernel_rfl
theorem each4_5 : one 4 5 = true := by kernel_rfl
theorem each4_6 : one 4 6 = true := by kernel_rfl
theorem each4_7 : one 4 7 = true := by kernel_rfl
theorem each4_8 : one 4 8 = true := by kernel_rfl
end Go.Proofs.YtnfhfbdnpfgimaaDoor.Pure
