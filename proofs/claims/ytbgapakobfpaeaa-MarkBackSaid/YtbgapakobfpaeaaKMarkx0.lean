/- By a program of this session (kprint.py) over the printer: functions of the code as plain Lean functions, and the walks that say so. -/
import Derived.Test.YtbgapakobfpaeaaProg
import Derived.Below
import Derived.Deep.Draws
import Derived.Deep.AppendLies
import Derived.Maps.AppendAt
import Derived.OwnWalk
import Derived.Laws.BytesArg
import Derived.Laws.MakeOwn
import Derived.Laws.OwnMore
import Derived.Deep.OwnRows
import Derived.Tactics
import Derived.Lib.ConvBytes
import Derived.Laws.Slices
import Derived.WalkKit
import Derived.KernelRfl
import Derived.RowKit3
import Derived.Deep.LoopGhost
import Derived.Deep.QuietTactic
import Derived.BigQuiet
import Derived.WideLaws
import Derived.Deep.DeepCutAuto
import Derived.Deep.CutBlock
import Derived.Deep.RegionHeld3
import Derived.Laws.Rows
import Derived.Lib.AppendStr
import Derived.ArgAppend
import Derived.Laws.IdiomCopy
import Derived.OrdersHeld
import Derived.Laws.BitsLemmas
import Derived.RowKit
import Derived.Laws.RangeAny
import Derived.Laws.RangeString
import Derived.Test.YtbgapakobfpaeaaWWords
import Derived.Test.YtbgapakobfpaeaaWLast
import Derived.Test.YtbgapakobfpaeaaWTab
import Derived.Test.YtbgapakobfpaeaaWFour
import Derived.Test.YtbgapakobfpaeaaWQPut
import Derived.Test.YtbgapakobfpaeaaWApart
import Derived.Test.YtbgapakobfpaeaaWArr
import Derived.Test.YtbgapakobfpaeaaWZeros
import Derived.Test.YtbgapakobfpaeaaWFoot
import Derived.Test.YtbgapakobfpaeaaWKept
import Derived.Test.YtbgapakobfpaeaaWShare
import Derived.Test.YtbgapakobfpaeaaWN
import Derived.Test.YtbgapakobfpaeaaWFootNe
import Derived.Test.YtbgapakobfpaeaaWAt
import Derived.Test.YtbgapakobfpaeaaWEqStruct
import Derived.Test.YtbgapakobfpaeaaWRepsOne
import Derived.Test.YtbgapakobfpaeaaWInv
import Derived.Test.YtbgapakobfpaeaaWInvWords
import Derived.Test.YtbgapakobfpaeaaWGuard
import Derived.Test.YtbgapakobfpaeaaWNEv
import Derived.Test.YtbgapakobfpaeaaWMore
namespace Go.Proofs.Ytbgapakobfpaeaa.KMark
open Go.RowKit Go.Proofs.YtbgapakobfpaeaaW.PrintWords Go.Proofs.YtbgapakobfpaeaaW.PrintLast Go.Proofs.YtbgapakobfpaeaaW.PrintMore
attribute [local go_sem] max2_int min2_int max_two min_two max_three min_three max_four min_four   -- for this text's walks alone
set_option linter.unusedVariables false
set_option linter.unusedSimpArgs false



def errW : Option Int → Value
  | none => .nilIface
  | some c => .iface 0 (.int .i64 c)
theorem errW_none : errW none = .nilIface := rfl
theorem errW_some (c : Int) : errW (some c) = .iface 0 (.int .i64 c) := rfl

theorem info5 : (Try.prog.info? 5).map (fun i => (i.zero, i.size, i.bytes)) = some (some (.int .u8 0), 1, 1) := by kernel_rfl
theorem info9 : (Try.prog.info? 9).map (fun i => (i.zero, i.size, i.bytes)) = some (some (.string ⟨#[]⟩), 1, 16) := by kernel_rfl
-- the values' own types

end Go.Proofs.Ytbgapakobfpaeaa.KMark
