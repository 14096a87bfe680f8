/- LayTowers, in plain words: rows; each is reckoned. By this session. -/
import Derived.Test.YtkoeofaeigchpaaDoorCLayTowersR
import Derived.Test.YtkoeofaeigchpaaDoorCmPl
import Derived.KernelRfl
namespace Go.Proofs.YtkoeofaeigchpaaDoor.Pure
open Go Go.Proofs.YtkoeofaeigchpaaDoor.Cm
set_option maxRecDepth 100000
theorem e620 : yes (law20_LayTowers 101 (((6 : Int), (2 : Int), (0 : Int), ()), ())) = true := by kernel_rfl
theorem e621 : yes (law20_LayTowers 101 (((6 : Int), (2 : Int), (1 : Int), ()), ())) = true := by kernel_rfl
theorem e622 : yes (law20_LayTowers 101 (((6 : Int), (2 : Int), (2 : Int), ()), ())) = true := by kernel_rfl
theorem e623 : yes (law20_LayTowers 101 (((6 : Int), (2 : Int), (3 : Int), ()), ())) = true := by kernel_rfl
theorem e624 : yes (law20_LayTowers 101 (((6 : Int), (2 : Int), (4 : Int), ()), ())) = true := by kernel_rfl
theorem e625 : yes (law20_LayTowers 101 (((6 : Int), (2 : Int), (5 : Int), ()), ())) = true := by kernel_rfl
theorem e720 : yes (law20_LayTowers 101 (((7 : Int), (2 : Int), (0 : Int), ()), ())) = true := by kernel_rfl
theorem e725 : yes (law20_LayTowers 101 (((7 : Int), (2 : Int), (5 : Int), ()), ())) = true := by kernel_rfl
end Go.Proofs.YtkoeofaeigchpaaDoor.Pure
