/- By a program of this session (kprint.py) over the printer: functions of the code as plain Lean functions, and the walks that say so. -/
import Derived.Test.YtpiafijccnbdbaaDoorKTWireTwinsx0
import Derived.Test.YtpiafijccnbdbaaDoorKTWireTwinsx1
import Derived.Test.YtpiafijccnbdbaaDoorKTWireTwinsx2
import Derived.Test.YtpiafijccnbdbaaDoorKTWireTwinsx3
namespace Go.Proofs.YtpiafijccnbdbaaDoor.KTWireTwins
open Go.RowKit Go.Proofs.YtpiafijccnbdbaaDoorW.PrintWords Go.Proofs.YtpiafijccnbdbaaDoorW.PrintLast Go.Proofs.YtpiafijccnbdbaaDoorW.PrintMore
attribute [local go_sem] max2_int min2_int max_two min_two max_three min_three max_four min_four   -- for this text's walks alone
set_option linter.unusedVariables false
set_option linter.unusedSimpArgs false

end Go.Proofs.YtpiafijccnbdbaaDoor.KTWireTwins
