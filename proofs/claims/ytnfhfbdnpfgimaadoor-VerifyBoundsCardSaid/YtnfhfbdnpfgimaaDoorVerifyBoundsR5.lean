/- VerifyBounds: each one reckoned. By this session. -/
import Derived.Test.YtnfhfbdnpfgimaaDoorVerifyBoundsRows
import Derived.Test.YtnfhfbdnpfgimaaDoorCmPl
import Derived.KernelRfl
namespace Go.Proofs.YtnfhfbdnpfgimaaDoor.Pure
open Go Go.Proofs.YtnfhfbdnpfgimaaDoor.Cm
set_option linter.unusedVariables false
set_option maxRecDepth 100000
theorem each5_0 : one 5 0 = true := by kernel_rfl
theorem each5_1 : one 5 1 = true := by kernel_rfl
theorem each5_2 : one 5 2 = true := by kernel_rfl
theorem each5_3 : one 5 3 = true := by kernel_rfl
theorem each5_4 : one 5 4 = true := by kernel_rfl
theorem each5_5 : one 5 5 = true := by kernel_rfl
theorem each5_6 : one 5 6 = true := by kernel_rfl
theorem each5_7 : one 5 7 = true := by kernel_rfl
theorem each5_8 : one 5 8 = true := by kernel_rfl
end Go.Proofs.YtnfhfbdnpfgimaaDoor.Pure
