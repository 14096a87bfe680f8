/- DiskArms: rows, reckoned. By this session. -/
import Derived.Test.YtgpoomkbkckbaaaDoorDiskArmsRows
namespace Go.Proofs.YtgpoomkbkckbaaaDoor.Pure
open Go Go.Proofs.YtgpoomkbkckbaaaDoor.Cm
set_option maxRecDepth 100000
theorem row12 : row 12 = true := by kernel_rfl
theorem row13 : row 13 = true := by kernel_rfl
theorem row14 : row 14 = true := by kernel_rfl
theorem row15 : row 15 = true := by kernel_rfl
theorem row16 : row 16 = true := by kernel_rfl
theorem row17 : row 17 = true := by kernel_rfl
end Go.Proofs.YtgpoomkbkckbaaaDoor.Pure
