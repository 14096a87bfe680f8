/- DiskArms: rows, reckoned. By this session. -/
import Derived.Test.YtgpoomkbkckbaaaDoorDiskArmsRows
namespace Go.Proofs.YtgpoomkbkckbaaaDoor.Pure
open Go Go.Proofs.YtgpoomkbkckbaaaDoor.Cm
set_option maxRecDepth 100000
theorem row18 : row 18 = true := by kernel_rfl
theorem row19 : row 19 = true := by kernel_rfl
theorem row20 : row 20 = true := by kernel_rfl
theorem row21 : row 21 = true := by kernel_rfl
theorem row22 : row 22 = true := by kernel_rfl
theorem row23 : row 23 = true := by kernel_rfl
end Go.Proofs.YtgpoomkbkckbaaaDoor.Pure
