/- DiskArms: rows, reckoned. By this session. -/
import Derived.Test.YtgpoomkbkckbaaaDoorDiskArmsRows
namespace Go.Proofs.YtgpoomkbkckbaaaDoor.Pure
open Go Go.Proofs.YtgpoomkbkckbaaaDoor.Cm
set_option maxRecDepth 100000
theorem row0 : row 0 = true := by kernel_rfl
theorem row1 : row 1 = true := by kernel_rfl
theorem row2 : row 2 = true := by kernel_rfl
theorem row3 : row 3 = true := by kernel_rfl
theorem row4 : row 4 = true := by kernel_rfl
theorem row5 : row 5 = true := by kernel_rfl
end Go.Proofs.YtgpoomkbkckbaaaDoor.Pure
