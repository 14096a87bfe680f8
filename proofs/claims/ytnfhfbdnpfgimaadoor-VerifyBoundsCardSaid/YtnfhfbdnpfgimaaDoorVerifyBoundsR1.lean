/- VerifyBounds: each one reckoned. By this session. -/
import Derived.Test.YtnfhfbdnpfgimaaDoorVerifyBoundsRows
import Derived.Test.YtnfhfbdnpfgimaaDoorCmPl
import Derived.KernelRfl
namespace Go.Proofs.YtnfhfbdnpfgimaaDoor.Pure
open Go Go.Proofs.YtnfhfbdnpfgimaaDoor.Cm
set_option linter.unusedVariables false
set_option maxRecDepth 100000
theorem each1_0 : one 1 0 = true := by kernel_rfl
theorem each1_1 : one 1 1 = true := by kernel_rfl
theorem each1_2 : one 1 2 = true := by kernel_rfl
theorem each1_3 : one 1 3 = true := by kernel_rfl
theorem each1_4 : one 1 4 = true := by kernel_rfl
theorem each1_5 : one 1 5 = true := by kernel_rfl
theorem each1_6 : one 1 6 = true := by kernel_rfl
theorem each1_7 : one 1 7 = true := by kernel_rfl
theorem each1_8 : one 1 8 = true := by kernel_rfl
end Go.Proofs.YtnfhfbdnpfgimaaDoor.Pure
