/- VerifyBounds: each one reckoned. By this session. -/
import Derived.Test.YtnfhfbdnpfgimaaDoorVerifyBoundsRows
import Derived.Test.YtnfhfbdnpfgimaaDoorCmPl
import Derived.KernelRfl
namespace Go.Proofs.YtnfhfbdnpfgimaaDoor.Pure
open Go Go.Proofs.YtnfhfbdnpfgimaaDoor.Cm
set_option linter.unusedVariables false
set_option maxRecDepth 100000
theorem each3_0 : one 3 0 = true := by kernel_rfl
theorem each3_1 : one 3 1 = true := by kernel_rfl
theorem each3_2 : one 3 2 = true := by kernel_rfl
theorem each3_3 : one 3 3 = true := by kernel_rfl
theorem each3_4 : one 3 4 = true := by kernel_rfl
theorem each3_5 : one 3 5 = true := by kernel_rfl
theorem each3_6 : one 3 6 = true := by kernel_rfl
theorem each3_7 : one 3 7 = true := by kernel_rfl
theorem each3_8 : one 3 8 = true := by kernel_rfl
end Go.Proofs.YtnfhfbdnpfgimaaDoor.Pure
