/- LayTowers, in plain words: rows; each is reckoned. By this session. -/
import Derived.Test.YtkoeofaeigchpaaDoorCLayTowersR
import Derived.Test.YtkoeofaeigchpaaDoorCmPl
import Derived.KernelRfl
namespace Go.Proofs.YtkoeofaeigchpaaDoor.Pure
open Go Go.Proofs.YtkoeofaeigchpaaDoor.Cm
set_option maxRecDepth 100000
theorem e532 : yes (law20_LayTowers 101 (((5 : Int), (3 : Int), (2 : Int), ()), ())) = true := by kernel_rfl
theorem e533 : yes (law20_LayTowers 101 (((5 : Int), (3 : Int), (3 : Int), ()), ())) = true := by kernel_rfl
theorem e534 : yes (law20_LayTowers 101 (((5 : Int), (3 : Int), (4 : Int), ()), ())) = true := by kernel_rfl
theorem e535 : yes (law20_LayTowers 101 (((5 : Int), (3 : Int), (5 : Int), ()), ())) = true := by kernel_rfl
end Go.Proofs.YtkoeofaeigchpaaDoor.Pure
