/- DiskArms: rows, reckoned. By this session. -/
import Derived.Test.YtgpoomkbkckbaaaDoorDiskArmsRows
namespace Go.Proofs.YtgpoomkbkckbaaaDoor.Pure
open Go Go.Proofs.YtgpoomkbkckbaaaDoor.Cm
set_option maxRecDepth 100000
theorem row6 : row 6 = true := by kernel_rfl
theorem row7 : row 7 = true := by kernel_rfl
theorem row8 : row 8 = true := by kernel_rfl
theorem row9 : row 9 = true := by kernel_rfl
theorem row10 : row 10 = true := by kernel_rfl
theorem row11 : row 11 = true := by kernel_rfl
end Go.Proofs.YtgpoomkbkckbaaaDoor.Pure
