/- LayTowers, in plain words: rows; each is reckoned. By this session. -/
import Derived.Test.YtkoeofaeigchpaaDoorCLayTowersR
import Derived.Test.YtkoeofaeigchpaaDoorCmPl
import Derived.KernelRfl
namespace Go.Proofs.YtkoeofaeigchpaaDoor.Pure
open Go Go.Proofs.YtkoeofaeigchpaaDoor.Cm
set_option maxRecDepth 100000
theorem e721 : yes (law20_LayTowers 101 (((7 : Int), (2 : Int), (1 : Int), ()), ())) = true := by kernel_rfl
theorem e722 : yes (law20_LayTowers 101 (((7 : Int), (2 : Int), (2 : Int), ()), ())) = true := by kernel_rfl
theorem e723 : yes (law20_LayTowers 101 (((7 : Int), (2 : Int), (3 : Int), ()), ())) = true := by kernel_rfl
theorem e724 : yes (law20_LayTowers 101 (((7 : Int), (2 : Int), (4 : Int), ()), ())) = true := by kernel_rfl
end Go.Proofs.YtkoeofaeigchpaaDoor.Pure
