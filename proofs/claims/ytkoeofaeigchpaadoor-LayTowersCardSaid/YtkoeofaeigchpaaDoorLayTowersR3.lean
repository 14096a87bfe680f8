/- LayTowers, in plain words: rows; each is reckoned. By this session. -/
import Derived.Test.YtkoeofaeigchpaaDoorCLayTowersR
import Derived.Test.YtkoeofaeigchpaaDoorCmPl
import Derived.KernelRfl
namespace Go.Proofs.YtkoeofaeigchpaaDoor.Pure
open Go Go.Proofs.YtkoeofaeigchpaaDoor.Cm
set_option maxRecDepth 100000
theorem e430 : yes (law20_LayTowers 101 (((4 : Int), (3 : Int), (0 : Int), ()), ())) = true := by kernel_rfl
theorem e431 : yes (law20_LayTowers 101 (((4 : Int), (3 : Int), (1 : Int), ()), ())) = true := by kernel_rfl
theorem e432 : yes (law20_LayTowers 101 (((4 : Int), (3 : Int), (2 : Int), ()), ())) = true := by kernel_rfl
theorem e433 : yes (law20_LayTowers 101 (((4 : Int), (3 : Int), (3 : Int), ()), ())) = true := by kernel_rfl
theorem e434 : yes (law20_LayTowers 101 (((4 : Int), (3 : Int), (4 : Int), ()), ())) = true := by kernel_rfl
theorem e435 : yes (law20_LayTowers 101 (((4 : Int), (3 : Int), (5 : Int), ()), ())) = true := by kernel_rfl
end Go.Proofs.YtkoeofaeigchpaaDoor.Pure
