/-
  NARROWER THAN 'FOR EVERY INPUT', by the rows' own cells (each row's printed sentence says how): ShowSays: loops, laid · DepsTurned: loops, laid · DepsSays: loops, laid.
  DERIVED. THE GIVEN ROWS OF THIS SEAT. 3 by the template 'for every input the law returns true; each argument reads behind the call as it read before'; 0 by the template 'total and deterministic' (their statements: YtnajjhjbkanigaaDoorTotals.lean).
  GIVEN WITH THE SEED: the statements are not yours to turn. If you find one false, say at which input.
  Laid BY PROGRAM, IN A SANDBOX (cutbox-rows.mjs): the forced cells as the released guide's own fill.sh prints them over the translation 3384dd32ee981ecf… (all of the seat's roots in one cut). By AI agents, Wed Nov 11 2026. No macro, syntax, notation, axiom, sorry.
-/
import Derived.Test.YtnajjhjbkanigaaDoorChecked
import GoSem.Claim
import GoSem.ClaimJoined
import GoSem.ClaimMapViews
import Derived.JoinedTies
import Derived.KernelRfl
namespace Go.Proofs.YtnajjhjbkanigaaDoor
/- THE CELL 'sum', in the pinned program and in every row, IS THE sha256 OF THE DUMP (.gsa) THAT YtnajjhjbkanigaaDoorProg.lean LOADS. Nothing in Lean hashes anything: it is a label: what it is worth is what the hold of that sum in a sandbox is worth. -/
noncomputable def Tryd.pinned : Pinned := { name := "ytnajjhjbkanigaadoor", sum := "3384dd32ee981ecf6a36ee71a2d197e94afa1979433cb13d4a34171d10141ab0", checked := Tryd.checked }
namespace Rows
def none {H : Type} : Left H := { results := [], args := [] }

/- WHAT THE LISTED PACKAGE-LEVEL VARIABLES READ AS WHEN THE CALL BEGINS. Each datum BY PROGRAM (the guide's laid-datum.mjs) off the statement by which the dump's own 'gosem.cut.vars' lays the variable. In a bare row this is a premise. The card (YtnajjhjbkanigaaDoorCards.lean) ties it to the program's text. -/
def laid_math_bits_deBruijn32tab {H : Type} : DataW H := .agg [.lit (.int .u8 0), .lit (.int .u8 1), .lit (.int .u8 28), .lit (.int .u8 2), .lit (.int .u8 29), .lit (.int .u8 14), .lit (.int .u8 24), .lit (.int .u8 3), .lit (.int .u8 30), .lit (.int .u8 22), .lit (.int .u8 20), .lit (.int .u8 15), .lit (.int .u8 25), .lit (.int .u8 17), .lit (.int .u8 4), .lit (.int .u8 8), .lit (.int .u8 31), .lit (.int .u8 27), .lit (.int .u8 13), .lit (.int .u8 23), .lit (.int .u8 21), .lit (.int .u8 19), .lit (.int .u8 16), .lit (.int .u8 7), .lit (.int .u8 26), .lit (.int .u8 12), .lit (.int .u8 18), .lit (.int .u8 6), .lit (.int .u8 11), .lit (.int .u8 5), .lit (.int .u8 10), .lit (.int .u8 9)]
def laid_math_bits_deBruijn64tab {H : Type} : DataW H := .agg [.lit (.int .u8 0), .lit (.int .u8 1), .lit (.int .u8 56), .lit (.int .u8 2), .lit (.int .u8 57), .lit (.int .u8 49), .lit (.int .u8 28), .lit (.int .u8 3), .lit (.int .u8 61), .lit (.int .u8 58), .lit (.int .u8 42), .lit (.int .u8 50), .lit (.int .u8 38), .lit (.int .u8 29), .lit (.int .u8 17), .lit (.int .u8 4), .lit (.int .u8 62), .lit (.int .u8 47), .lit (.int .u8 59), .lit (.int .u8 36), .lit (.int .u8 45), .lit (.int .u8 43), .lit (.int .u8 51), .lit (.int .u8 22), .lit (.int .u8 53), .lit (.int .u8 39), .lit (.int .u8 33), .lit (.int .u8 30), .lit (.int .u8 24), .lit (.int .u8 18), .lit (.int .u8 12), .lit (.int .u8 5), .lit (.int .u8 63), .lit (.int .u8 55), .lit (.int .u8 48), .lit (.int .u8 27), .lit (.int .u8 60), .lit (.int .u8 41), .lit (.int .u8 37), .lit (.int .u8 16), .lit (.int .u8 46), .lit (.int .u8 35), .lit (.int .u8 44), .lit (.int .u8 21), .lit (.int .u8 52), .lit (.int .u8 32), .lit (.int .u8 23), .lit (.int .u8 11), .lit (.int .u8 54), .lit (.int .u8 26), .lit (.int .u8 40), .lit (.int .u8 15), .lit (.int .u8 34), .lit (.int .u8 20), .lit (.int .u8 31), .lit (.int .u8 10), .lit (.int .u8 25), .lit (.int .u8 14), .lit (.int .u8 19), .lit (.int .u8 9), .lit (.int .u8 13), .lit (.int .u8 8), .lit (.int .u8 7), .lit (.int .u8 6)]
def laid_internal_strconv_uint64pow10 {H : Type} : DataW H := .agg [.lit (.int .u64 1), .lit (.int .u64 10), .lit (.int .u64 100), .lit (.int .u64 1000), .lit (.int .u64 10000), .lit (.int .u64 100000), .lit (.int .u64 1000000), .lit (.int .u64 10000000), .lit (.int .u64 100000000), .lit (.int .u64 1000000000), .lit (.int .u64 10000000000), .lit (.int .u64 100000000000), .lit (.int .u64 1000000000000), .lit (.int .u64 10000000000000), .lit (.int .u64 100000000000000), .lit (.int .u64 1000000000000000), .lit (.int .u64 10000000000000000), .lit (.int .u64 100000000000000000), .lit (.int .u64 1000000000000000000), .lit (.int .u64 10000000000000000000)]
def laid_pendulum_api_ErrMany {H : Type} : DataW H := .iface "*errors.errorString" (.ptr (.agg [.lit (.string [116, 111, 111, 32, 109, 97, 110, 121])]))
def laid_pendulum_api_ErrTwice {H : Type} : DataW H := .iface "*errors.errorString" (.ptr (.agg [.lit (.string [116, 119, 105, 99, 101])]))
def laid_pendulum_api_ErrLoop {H : Type} : DataW H := .iface "*errors.errorString" (.ptr (.agg [.lit (.string [105, 116, 32, 104, 97, 110, 103, 115, 32, 111, 110, 32, 105, 116, 115, 101, 108, 102])]))
def laid_pendulum_api_ErrNone {H : Type} : DataW H := .iface "*errors.errorString" (.ptr (.agg [.lit (.string [116, 104, 101, 114, 101, 32, 105, 115, 32, 110, 111, 110, 101])]))
def laid_pendulum_api_ErrEnd {H : Type} : DataW H := .iface "*errors.errorString" (.ptr (.agg [.lit (.string [105, 116, 32, 101, 110, 100, 115, 32, 116, 111, 111, 32, 101, 97, 114, 108, 121])]))
def laid_pendulum_api_ErrShape {H : Type} : DataW H := .iface "*errors.errorString" (.ptr (.agg [.lit (.string [110, 111, 116, 32, 97, 115, 32, 105, 116, 32, 104, 97, 115, 32, 116, 111, 32, 98, 101])]))
def laid_pendulum_api_ErrRange {H : Type} : DataW H := .iface "*errors.errorString" (.ptr (.agg [.lit (.string [97, 32, 110, 117, 109, 98, 101, 114, 32, 111, 117, 116, 32, 111, 102, 32, 105, 116, 115, 32, 114, 97, 110, 103, 101])]))
def laid_pendulum_api_ErrRune {H : Type} : DataW H := .iface "*errors.errorString" (.ptr (.agg [.lit (.string [110, 111, 116, 32, 97, 32, 114, 117, 110, 101, 32, 116, 104, 97, 116, 32, 109, 97, 121, 32, 115, 116, 97, 110, 100, 32, 116, 104, 101, 114, 101])]))
def laid_pendulum_api_ErrWord {H : Type} : DataW H := .iface "*errors.errorString" (.ptr (.agg [.lit (.string [110, 111, 116, 32, 97, 32, 119, 111, 114, 100, 32, 116, 104, 97, 116, 32, 109, 97, 121, 32, 115, 116, 97, 110, 100, 32, 116, 104, 101, 114, 101])]))
def laid_pendulum_api_ErrNumber {H : Type} : DataW H := .iface "*errors.errorString" (.ptr (.agg [.lit (.string [110, 111, 116, 32, 97, 32, 110, 117, 109, 98, 101, 114])]))
def laid_pendulum_api_ErrDeep {H : Type} : DataW H := .iface "*errors.errorString" (.ptr (.agg [.lit (.string [116, 111, 111, 32, 100, 101, 101, 112])]))
def laid_pendulum_api_ErrName {H : Type} : DataW H := .iface "*errors.errorString" (.ptr (.agg [.lit (.string [110, 111, 32, 115, 117, 99, 104, 32, 110, 97, 109, 101])]))
def laid_pendulum_api_ErrType {H : Type} : DataW H := .iface "*errors.errorString" (.ptr (.agg [.lit (.string [111, 102, 32, 97, 110, 111, 116, 104, 101, 114, 32, 116, 121, 112, 101])]))
def laid_pendulum_api_ErrClock {H : Type} : DataW H := .iface "*errors.errorString" (.ptr (.agg [.lit (.string [111, 110, 32, 97, 110, 111, 116, 104, 101, 114, 32, 99, 108, 111, 99, 107])]))
def laid_pendulum_api_ErrInit {H : Type} : DataW H := .iface "*errors.errorString" (.ptr (.agg [.lit (.string [110, 111, 116, 32, 116, 104, 101, 114, 101, 32, 97, 116, 32, 102, 105, 114, 115, 116])]))
def laid_pendulum_api_ErrArity {H : Type} : DataW H := .iface "*errors.errorString" (.ptr (.agg [.lit (.string [110, 111, 116, 32, 97, 115, 32, 109, 97, 110, 121])]))
def laid_pendulum_api_ErrThere {H : Type} : DataW H := .iface "*errors.errorString" (.ptr (.agg [.lit (.string [116, 104, 101, 114, 101, 32, 105, 115, 32, 111, 110, 101])]))
def laid_pendulum_api_ErrFull {H : Type} : DataW H := .iface "*errors.errorString" (.ptr (.agg [.lit (.string [116, 104, 101, 114, 101, 32, 105, 115, 32, 110, 111, 32, 114, 111, 111, 109])]))
def laid_pendulum_api_ErrCrash {H : Type} : DataW H := .iface "*errors.errorString" (.ptr (.agg [.lit (.string [105, 116, 32, 105, 115, 32, 100, 111, 119, 110])]))
def laid_pendulum_api_ErrState {H : Type} : DataW H := .iface "*errors.errorString" (.ptr (.agg [.lit (.string [110, 111, 116, 32, 105, 110, 32, 116, 104, 105, 115, 32, 115, 116, 97, 116, 101])]))
def laid_pendulum_api_ErrFace {H : Type} : DataW H := .iface "*errors.errorString" (.ptr (.agg [.lit (.string [97, 110, 111, 116, 104, 101, 114, 32, 102, 97, 99, 101])]))

/-- 'pendulumlaw8.ShowSays': WHATEVER THE INPUT: true; the input reads as it did. -/
def showSaysSpec : ChangeSpec := { name := "showSays", fn := fun _ => fun
  | [d] => { results := [.lit (.bool true)], args := [d] }
  | _ => none }
def showSaysRow : OpenClaim := { program := "ytnajjhjbkanigaadoor", sum := "3384dd32ee981ecf6a36ee71a2d197e94afa1979433cb13d4a34171d10141ab0", func := "pendulum/pendulumlaw8.ShowSays", spec := "showSays", inPlace := ["internal/abi.NoEscape", "internal/bytealg.MakeNoZero"], recurses := true, named := ["internal/strconv.uint64pow10", "math/bits.deBruijn32tab", "math/bits.deBruijn64tab"], loops := true, apart := false, laid := [("math/bits.deBruijn32tab", laid_math_bits_deBruijn32tab), ("math/bits.deBruijn64tab", laid_math_bits_deBruijn64tab), ("internal/strconv.uint64pow10", laid_internal_strconv_uint64pow10)] }
def ShowSaysSaid : Prop := showSaysRow.holds Tryd.pinned (OpenSpec.ofChange showSaysSpec)

/-- ITS FALSE NEIGHBOUR: 'it returns false'. Refute it at one input. -/
def showSaysWrong : ChangeSpec := { name := "showSays", fn := fun _ => fun
  | [d] => { results := [.lit (.bool false)], args := [d] }
  | _ => none }
def ShowSaysWrongFalsely : Prop := showSaysRow.holds Tryd.pinned (OpenSpec.ofChange showSaysWrong)

/-- 'pendulumlaw24.DepsTurned': WHATEVER THE INPUT: true; the input reads as it did. -/
def depsTurnedSpec : ChangeSpec := { name := "depsTurned", fn := fun _ => fun
  | [d1, d2, d3] => { results := [.lit (.bool true)], args := [d1, d2, d3] }
  | _ => none }
def depsTurnedRow : OpenClaim := { program := "ytnajjhjbkanigaadoor", sum := "3384dd32ee981ecf6a36ee71a2d197e94afa1979433cb13d4a34171d10141ab0", func := "pendulum/pendulumlaw24.DepsTurned", spec := "depsTurned", unfollowed := true, recurses := true, named := ["pendulum/api.ErrMany", "pendulum/api.ErrTwice", "pendulum/api.ErrLoop", "pendulum/api.ErrNone"], loops := true, apart := false, laid := [("pendulum/api.ErrMany", laid_pendulum_api_ErrMany), ("pendulum/api.ErrTwice", laid_pendulum_api_ErrTwice), ("pendulum/api.ErrLoop", laid_pendulum_api_ErrLoop), ("pendulum/api.ErrNone", laid_pendulum_api_ErrNone)] }
def DepsTurnedSaid : Prop := depsTurnedRow.holds Tryd.pinned (OpenSpec.ofChange depsTurnedSpec)

/-- ITS FALSE NEIGHBOUR: 'it returns false'. Refute it at one input. -/
def depsTurnedWrong : ChangeSpec := { name := "depsTurned", fn := fun _ => fun
  | [d1, d2, d3] => { results := [.lit (.bool false)], args := [d1, d2, d3] }
  | _ => none }
def DepsTurnedWrongFalsely : Prop := depsTurnedRow.holds Tryd.pinned (OpenSpec.ofChange depsTurnedWrong)

/-- 'pendulumlaw24.DepsSays': WHATEVER THE INPUT: true; the input reads as it did. -/
def depsSaysSpec : ChangeSpec := { name := "depsSays", fn := fun _ => fun
  | [d1, d2] => { results := [.lit (.bool true)], args := [d1, d2] }
  | _ => none }
def depsSaysRow : OpenClaim := { program := "ytnajjhjbkanigaadoor", sum := "3384dd32ee981ecf6a36ee71a2d197e94afa1979433cb13d4a34171d10141ab0", func := "pendulum/pendulumlaw24.DepsSays", spec := "depsSays", unfollowed := true, recurses := true, named := ["pendulum/api.ErrMany", "pendulum/api.ErrTwice", "pendulum/api.ErrLoop", "pendulum/api.ErrNone", "pendulum/api.ErrEnd", "pendulum/api.ErrShape", "pendulum/api.ErrRange", "pendulum/api.ErrRune", "pendulum/api.ErrWord", "pendulum/api.ErrNumber", "pendulum/api.ErrDeep", "pendulum/api.ErrName", "pendulum/api.ErrType", "pendulum/api.ErrClock", "pendulum/api.ErrInit", "pendulum/api.ErrArity", "pendulum/api.ErrThere", "pendulum/api.ErrFull", "pendulum/api.ErrCrash", "pendulum/api.ErrState", "pendulum/api.ErrFace"], loops := true, apart := false, laid := [("pendulum/api.ErrEnd", laid_pendulum_api_ErrEnd), ("pendulum/api.ErrShape", laid_pendulum_api_ErrShape), ("pendulum/api.ErrMany", laid_pendulum_api_ErrMany), ("pendulum/api.ErrRange", laid_pendulum_api_ErrRange), ("pendulum/api.ErrRune", laid_pendulum_api_ErrRune), ("pendulum/api.ErrWord", laid_pendulum_api_ErrWord), ("pendulum/api.ErrNumber", laid_pendulum_api_ErrNumber), ("pendulum/api.ErrDeep", laid_pendulum_api_ErrDeep), ("pendulum/api.ErrName", laid_pendulum_api_ErrName), ("pendulum/api.ErrTwice", laid_pendulum_api_ErrTwice), ("pendulum/api.ErrType", laid_pendulum_api_ErrType), ("pendulum/api.ErrClock", laid_pendulum_api_ErrClock), ("pendulum/api.ErrLoop", laid_pendulum_api_ErrLoop), ("pendulum/api.ErrInit", laid_pendulum_api_ErrInit), ("pendulum/api.ErrArity", laid_pendulum_api_ErrArity), ("pendulum/api.ErrNone", laid_pendulum_api_ErrNone), ("pendulum/api.ErrThere", laid_pendulum_api_ErrThere), ("pendulum/api.ErrFull", laid_pendulum_api_ErrFull), ("pendulum/api.ErrCrash", laid_pendulum_api_ErrCrash), ("pendulum/api.ErrState", laid_pendulum_api_ErrState), ("pendulum/api.ErrFace", laid_pendulum_api_ErrFace)] }
def DepsSaysSaid : Prop := depsSaysRow.holds Tryd.pinned (OpenSpec.ofChange depsSaysSpec)

/-- ITS FALSE NEIGHBOUR: 'it returns false'. Refute it at one input. -/
def depsSaysWrong : ChangeSpec := { name := "depsSays", fn := fun _ => fun
  | [d1, d2] => { results := [.lit (.bool false)], args := [d1, d2] }
  | _ => none }
def DepsSaysWrongFalsely : Prop := depsSaysRow.holds Tryd.pinned (OpenSpec.ofChange depsSaysWrong)

/- THE SECOND FORM. 'bulk': how many values and letters a reading holds, each counted each time it is reached (what is shared counts as often as it is met; a slice's spare places count too). A statement '..UptoSaid' is the law's where the arguments, and the package variables that the reading takes, are together of bulk at most 1048576: NARROWER than '..Said'. Prove '..Said' where nothing that the law and all that it calls make is longer than what came in: it says more and counts as full. Else prove '..UptoSaid'. A law counts once. -/
mutual
def uptoBulk {H : Type} : DataW H → Nat
  | .lit (.string bytes) => bytes.length + 1
  | .lit _ => 1
  | .nil => 1
  | .ptr d => uptoBulk d + 1
  | .slice elems spare => uptoBulkAll elems + uptoBulkAll spare + 1
  | .agg parts => uptoBulkAll parts + 1
  | .iface _ d => uptoBulk d + 1
  | .map entries => uptoBulkEntries entries + 1
  | .held _ => 1
def uptoBulkAll {H : Type} : List (DataW H) → Nat
  | [] => 0
  | d :: r => uptoBulk d + uptoBulkAll r
def uptoBulkEntries {H : Type} : List (Lit × DataW H) → Nat
  | [] => 0
  | x :: r => uptoBulkEntry x + uptoBulkEntries r
def uptoBulkEntry {H : Type} : Lit × DataW H → Nat
  | (.string bytes, d) => bytes.length + uptoBulk d + 1
  | (_, d) => uptoBulk d + 1
 end
def uptoSmall : (H : Type) → List (DataW H) → Bool := fun _ ds => decide (uptoBulkAll ds ≤ 1048576)
def OpenSpec.upto (s : _root_.Go.ChangeSpec) : _root_.Go.OpenSpec := { _root_.Go.OpenSpec.ofChange s with cond := some uptoSmall }

/-- 'pendulumlaw8.ShowSays', WHERE WHAT IT READS IS OF BULK AT MOST 1048576: true; the input reads as it did. -/
def showSaysUptoRow : OpenClaim := { program := "ytnajjhjbkanigaadoor", sum := "3384dd32ee981ecf6a36ee71a2d197e94afa1979433cb13d4a34171d10141ab0", func := "pendulum/pendulumlaw8.ShowSays", spec := "showSays", inPlace := ["internal/abi.NoEscape", "internal/bytealg.MakeNoZero"], recurses := true, named := ["internal/strconv.uint64pow10", "math/bits.deBruijn32tab", "math/bits.deBruijn64tab"], loops := true, apart := false, laid := [("math/bits.deBruijn32tab", laid_math_bits_deBruijn32tab), ("math/bits.deBruijn64tab", laid_math_bits_deBruijn64tab), ("internal/strconv.uint64pow10", laid_internal_strconv_uint64pow10)], narrowed := true }
def ShowSaysUptoSaid : Prop := showSaysUptoRow.holds Tryd.pinned (OpenSpec.upto showSaysSpec)

/-- 'pendulumlaw24.DepsTurned', WHERE WHAT IT READS IS OF BULK AT MOST 1048576: true; the input reads as it did. -/
def depsTurnedUptoRow : OpenClaim := { program := "ytnajjhjbkanigaadoor", sum := "3384dd32ee981ecf6a36ee71a2d197e94afa1979433cb13d4a34171d10141ab0", func := "pendulum/pendulumlaw24.DepsTurned", spec := "depsTurned", unfollowed := true, recurses := true, named := ["pendulum/api.ErrMany", "pendulum/api.ErrTwice", "pendulum/api.ErrLoop", "pendulum/api.ErrNone"], loops := true, apart := false, laid := [("pendulum/api.ErrMany", laid_pendulum_api_ErrMany), ("pendulum/api.ErrTwice", laid_pendulum_api_ErrTwice), ("pendulum/api.ErrLoop", laid_pendulum_api_ErrLoop), ("pendulum/api.ErrNone", laid_pendulum_api_ErrNone)], narrowed := true }
def DepsTurnedUptoSaid : Prop := depsTurnedUptoRow.holds Tryd.pinned (OpenSpec.upto depsTurnedSpec)

/-- 'pendulumlaw24.DepsSays', WHERE WHAT IT READS IS OF BULK AT MOST 1048576: true; the input reads as it did. -/
def depsSaysUptoRow : OpenClaim := { program := "ytnajjhjbkanigaadoor", sum := "3384dd32ee981ecf6a36ee71a2d197e94afa1979433cb13d4a34171d10141ab0", func := "pendulum/pendulumlaw24.DepsSays", spec := "depsSays", unfollowed := true, recurses := true, named := ["pendulum/api.ErrMany", "pendulum/api.ErrTwice", "pendulum/api.ErrLoop", "pendulum/api.ErrNone", "pendulum/api.ErrEnd", "pendulum/api.ErrShape", "pendulum/api.ErrRange", "pendulum/api.ErrRune", "pendulum/api.ErrWord", "pendulum/api.ErrNumber", "pendulum/api.ErrDeep", "pendulum/api.ErrName", "pendulum/api.ErrType", "pendulum/api.ErrClock", "pendulum/api.ErrInit", "pendulum/api.ErrArity", "pendulum/api.ErrThere", "pendulum/api.ErrFull", "pendulum/api.ErrCrash", "pendulum/api.ErrState", "pendulum/api.ErrFace"], loops := true, apart := false, laid := [("pendulum/api.ErrEnd", laid_pendulum_api_ErrEnd), ("pendulum/api.ErrShape", laid_pendulum_api_ErrShape), ("pendulum/api.ErrMany", laid_pendulum_api_ErrMany), ("pendulum/api.ErrRange", laid_pendulum_api_ErrRange), ("pendulum/api.ErrRune", laid_pendulum_api_ErrRune), ("pendulum/api.ErrWord", laid_pendulum_api_ErrWord), ("pendulum/api.ErrNumber", laid_pendulum_api_ErrNumber), ("pendulum/api.ErrDeep", laid_pendulum_api_ErrDeep), ("pendulum/api.ErrName", laid_pendulum_api_ErrName), ("pendulum/api.ErrTwice", laid_pendulum_api_ErrTwice), ("pendulum/api.ErrType", laid_pendulum_api_ErrType), ("pendulum/api.ErrClock", laid_pendulum_api_ErrClock), ("pendulum/api.ErrLoop", laid_pendulum_api_ErrLoop), ("pendulum/api.ErrInit", laid_pendulum_api_ErrInit), ("pendulum/api.ErrArity", laid_pendulum_api_ErrArity), ("pendulum/api.ErrNone", laid_pendulum_api_ErrNone), ("pendulum/api.ErrThere", laid_pendulum_api_ErrThere), ("pendulum/api.ErrFull", laid_pendulum_api_ErrFull), ("pendulum/api.ErrCrash", laid_pendulum_api_ErrCrash), ("pendulum/api.ErrState", laid_pendulum_api_ErrState), ("pendulum/api.ErrFace", laid_pendulum_api_ErrFace)], narrowed := true }
def DepsSaysUptoSaid : Prop := depsSaysUptoRow.holds Tryd.pinned (OpenSpec.upto depsSaysSpec)

end Rows
end Go.Proofs.YtnajjhjbkanigaaDoor
