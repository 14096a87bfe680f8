/- LayTowers, in plain words: rows; each is reckoned. By this session. -/
import Derived.Test.YtkoeofaeigchpaaDoorCLayTowersR
import Derived.Test.YtkoeofaeigchpaaDoorCmPl
import Derived.KernelRfl
namespace Go.Proofs.YtkoeofaeigchpaaDoor.Pure
open Go Go.Proofs.YtkoeofaeigchpaaDoor.Cm
set_option maxRecDepth 100000
theorem e530 : yes (law20_LayTowers 101 (((5 : Int), (3 : Int), (0 : Int), ()), ())) = true := by kernel_rfl
theorem e531 : yes (law20_LayTowers 101 (((5 : Int), (3 : Int), (1 : Int), ()), ())) = true := by kernel_rfl
end Go.Proofs.YtkoeofaeigchpaaDoor.Pure
