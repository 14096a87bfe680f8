/- DiskArms: rows, reckoned. By this session. -/
import Derived.Test.YtgpoomkbkckbaaaDoorDiskArmsRows
namespace Go.Proofs.YtgpoomkbkckbaaaDoor.Pure
open Go Go.Proofs.YtgpoomkbkckbaaaDoor.Cm
set_option maxRecDepth 100000
theorem row24 : row 24 = true := by kernel_rfl
theorem row25 : row 25 = true := by kernel_rfl
theorem row26 : row 26 = true := by kernel_rfl
theorem row27 : row 27 = true := by kernel_rfl
theorem row28 : row 28 = true := by kernel_rfl
theorem row29 : row 29 = true := by kernel_rfl
end Go.Proofs.YtgpoomkbkckbaaaDoor.Pure
