/- VerifyBounds: each one reckoned. By this session. -/
import Derived.Test.YtnfhfbdnpfgimaaDoorCVerifyBoundsR
import Derived.Test.YtnfhfbdnpfgimaaDoorCmPl
import Derived.KernelRfl
namespace Go.Proofs.YtnfhfbdnpfgimaaDoor.Pure
open Go Go.Proofs.YtnfhfbdnpfgimaaDoor.Cm
set_option linter.unusedVariables false
set_option maxRecDepth 100000
def one (o i : Nat) : Bool := (List.range 9).all fun j => (List.range 10).all fun t => yes (law22_VerifyBounds 61 (((o : Int), (i : Int), (j : Int), (t : Int), ()), ()))
end Go.Proofs.YtnfhfbdnpfgimaaDoor.Pure
