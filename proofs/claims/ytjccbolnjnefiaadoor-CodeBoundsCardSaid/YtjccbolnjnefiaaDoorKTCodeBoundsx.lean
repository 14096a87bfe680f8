/- By a program of this session (kprint.py) over the printer: functions of the code as plain Lean functions, and the walks that say so. -/
import Derived.Test.YtjccbolnjnefiaaDoorKTCodeBoundsx0
import Derived.Test.YtjccbolnjnefiaaDoorKTCodeBoundsx1
import Derived.Test.YtjccbolnjnefiaaDoorKTCodeBoundsx2
import Derived.Test.YtjccbolnjnefiaaDoorKTCodeBoundsx3
import Derived.Test.YtjccbolnjnefiaaDoorKTCodeBoundsx4
import Derived.Test.YtjccbolnjnefiaaDoorKTCodeBoundsx5
import Derived.Test.YtjccbolnjnefiaaDoorKTCodeBoundsx6
namespace Go.Proofs.YtjccbolnjnefiaaDoor.KTCodeBounds
open Go.RowKit Go.Proofs.YtjccbolnjnefiaaDoorW.PrintWords Go.Proofs.YtjccbolnjnefiaaDoorW.PrintLast Go.Proofs.YtjccbolnjnefiaaDoorW.PrintMore
attribute [local go_sem] max2_int min2_int max_two min_two max_three min_three max_four min_four   -- for this text's walks alone
set_option linter.unusedVariables false
set_option linter.unusedSimpArgs false

end Go.Proofs.YtjccbolnjnefiaaDoor.KTCodeBounds
