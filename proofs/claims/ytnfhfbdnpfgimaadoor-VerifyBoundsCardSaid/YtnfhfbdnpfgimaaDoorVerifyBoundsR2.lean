/- VerifyBounds: each one reckoned. By this session. -/
import Derived.Test.YtnfhfbdnpfgimaaDoorVerifyBoundsRows
import Derived.Test.YtnfhfbdnpfgimaaDoorCmPl
import Derived.KernelRfl
namespace Go.Proofs.YtnfhfbdnpfgimaaDoor.Pure
open Go Go.Proofs.YtnfhfbdnpfgimaaDoor.Cm
set_option linter.unusedVariables false
set_option maxRecDepth 100000
theorem each2_0 : one 2 0 = true := by kernel_rfl
theorem each2_1 : one 2 1 = true := by kernel_rfl
theorem each2_2 : one 2 2 = true := by kernel_rfl
theorem each2_3 : one 2 3 = true := by kernel_rfl
theorem each2_4 : one 2 4 = true := by kernel_rfl
theorem each2_5 : one 2 5 = true := by kernel_rfl
theorem each2_6 : one 2 6 = true := by kernel_rfl
theorem each2_7 : one 2 7 = true := by kernel_rfl
theorem each2_8 : one 2 8 = true := by kernel_rfl
end Go.Proofs.YtnfhfbdnpfgimaaDoor.Pure
