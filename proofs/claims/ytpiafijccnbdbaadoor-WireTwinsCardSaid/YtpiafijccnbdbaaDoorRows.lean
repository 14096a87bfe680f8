/-
  NARROWER THAN 'FOR EVERY INPUT', by the rows' own cells (each row's printed sentence says how): WireForms: laid · WireTwins: laid · WirePuts: laid · WireRanges: laid · WireRows: laid · WireLengths: laid.
  DERIVED. THE GIVEN ROWS OF THIS SEAT. 6 by the template 'for every input the law returns true; each argument reads behind the call as it read before'; 0 by the template 'total and deterministic' (their statements: YtpiafijccnbdbaaDoorTotals.lean).
  GIVEN WITH THE SEED: the statements are not yours to turn. If you find one false, say at which input.
  Laid BY PROGRAM, IN A SANDBOX (cutbox-rows.mjs): the forced cells as the released guide's own fill.sh prints them over the translation ada787155a4bd7d2… (all of the seat's roots in one cut). By AI agents, Wed Nov 11 2026. No macro, syntax, notation, axiom, sorry.
-/
import Derived.Test.YtpiafijccnbdbaaDoorChecked
import GoSem.Claim
import GoSem.ClaimJoined
import GoSem.ClaimMapViews
import Derived.JoinedTies
import Derived.KernelRfl
namespace Go.Proofs.YtpiafijccnbdbaaDoor
/- THE CELL 'sum', in the pinned program and in every row, IS THE sha256 OF THE DUMP (.gsa) THAT YtpiafijccnbdbaaDoorProg.lean LOADS. Nothing in Lean hashes anything: it is a label: what it is worth is what the hold of that sum in a sandbox is worth. -/
noncomputable def Tryd.pinned : Pinned := { name := "ytpiafijccnbdbaadoor", sum := "ada787155a4bd7d2f0384c783639de8a07230b4c6d45e034d3528a2a07f1d386", checked := Tryd.checked }
namespace Rows
def none {H : Type} : Left H := { results := [], args := [] }

/- WHAT THE LISTED PACKAGE-LEVEL VARIABLES READ AS WHEN THE CALL BEGINS. Each datum BY PROGRAM (the guide's laid-datum.mjs) off the statement by which the dump's own 'gosem.cut.vars' lays the variable. In a bare row this is a premise. The card (YtpiafijccnbdbaaDoorCards.lean) ties it to the program's text. -/
def laid_pendulum_api_ErrEnd {H : Type} : DataW H := .iface "*errors.errorString" (.ptr (.agg [.lit (.string [105, 116, 32, 101, 110, 100, 115, 32, 116, 111, 111, 32, 101, 97, 114, 108, 121])]))
def laid_pendulum_api_ErrShape {H : Type} : DataW H := .iface "*errors.errorString" (.ptr (.agg [.lit (.string [110, 111, 116, 32, 97, 115, 32, 105, 116, 32, 104, 97, 115, 32, 116, 111, 32, 98, 101])]))
def laid_pendulum_api_ErrMany {H : Type} : DataW H := .iface "*errors.errorString" (.ptr (.agg [.lit (.string [116, 111, 111, 32, 109, 97, 110, 121])]))
def laid_pendulum_api_ErrRange {H : Type} : DataW H := .iface "*errors.errorString" (.ptr (.agg [.lit (.string [97, 32, 110, 117, 109, 98, 101, 114, 32, 111, 117, 116, 32, 111, 102, 32, 105, 116, 115, 32, 114, 97, 110, 103, 101])]))
def laid_pendulum_api_ErrRune {H : Type} : DataW H := .iface "*errors.errorString" (.ptr (.agg [.lit (.string [110, 111, 116, 32, 97, 32, 114, 117, 110, 101, 32, 116, 104, 97, 116, 32, 109, 97, 121, 32, 115, 116, 97, 110, 100, 32, 116, 104, 101, 114, 101])]))
def laid_pendulum_api_ErrWord {H : Type} : DataW H := .iface "*errors.errorString" (.ptr (.agg [.lit (.string [110, 111, 116, 32, 97, 32, 119, 111, 114, 100, 32, 116, 104, 97, 116, 32, 109, 97, 121, 32, 115, 116, 97, 110, 100, 32, 116, 104, 101, 114, 101])]))
def laid_pendulum_api_ErrNumber {H : Type} : DataW H := .iface "*errors.errorString" (.ptr (.agg [.lit (.string [110, 111, 116, 32, 97, 32, 110, 117, 109, 98, 101, 114])]))
def laid_pendulum_api_ErrDeep {H : Type} : DataW H := .iface "*errors.errorString" (.ptr (.agg [.lit (.string [116, 111, 111, 32, 100, 101, 101, 112])]))
def laid_pendulum_api_ErrName {H : Type} : DataW H := .iface "*errors.errorString" (.ptr (.agg [.lit (.string [110, 111, 32, 115, 117, 99, 104, 32, 110, 97, 109, 101])]))
def laid_pendulum_api_ErrTwice {H : Type} : DataW H := .iface "*errors.errorString" (.ptr (.agg [.lit (.string [116, 119, 105, 99, 101])]))
def laid_pendulum_api_ErrType {H : Type} : DataW H := .iface "*errors.errorString" (.ptr (.agg [.lit (.string [111, 102, 32, 97, 110, 111, 116, 104, 101, 114, 32, 116, 121, 112, 101])]))
def laid_pendulum_api_ErrClock {H : Type} : DataW H := .iface "*errors.errorString" (.ptr (.agg [.lit (.string [111, 110, 32, 97, 110, 111, 116, 104, 101, 114, 32, 99, 108, 111, 99, 107])]))
def laid_pendulum_api_ErrLoop {H : Type} : DataW H := .iface "*errors.errorString" (.ptr (.agg [.lit (.string [105, 116, 32, 104, 97, 110, 103, 115, 32, 111, 110, 32, 105, 116, 115, 101, 108, 102])]))
def laid_pendulum_api_ErrInit {H : Type} : DataW H := .iface "*errors.errorString" (.ptr (.agg [.lit (.string [110, 111, 116, 32, 116, 104, 101, 114, 101, 32, 97, 116, 32, 102, 105, 114, 115, 116])]))
def laid_pendulum_api_ErrArity {H : Type} : DataW H := .iface "*errors.errorString" (.ptr (.agg [.lit (.string [110, 111, 116, 32, 97, 115, 32, 109, 97, 110, 121])]))
def laid_pendulum_api_ErrNone {H : Type} : DataW H := .iface "*errors.errorString" (.ptr (.agg [.lit (.string [116, 104, 101, 114, 101, 32, 105, 115, 32, 110, 111, 110, 101])]))
def laid_pendulum_api_ErrThere {H : Type} : DataW H := .iface "*errors.errorString" (.ptr (.agg [.lit (.string [116, 104, 101, 114, 101, 32, 105, 115, 32, 111, 110, 101])]))
def laid_pendulum_api_ErrFull {H : Type} : DataW H := .iface "*errors.errorString" (.ptr (.agg [.lit (.string [116, 104, 101, 114, 101, 32, 105, 115, 32, 110, 111, 32, 114, 111, 111, 109])]))
def laid_pendulum_api_ErrCrash {H : Type} : DataW H := .iface "*errors.errorString" (.ptr (.agg [.lit (.string [105, 116, 32, 105, 115, 32, 100, 111, 119, 110])]))
def laid_pendulum_api_ErrState {H : Type} : DataW H := .iface "*errors.errorString" (.ptr (.agg [.lit (.string [110, 111, 116, 32, 105, 110, 32, 116, 104, 105, 115, 32, 115, 116, 97, 116, 101])]))
def laid_pendulum_api_ErrFace {H : Type} : DataW H := .iface "*errors.errorString" (.ptr (.agg [.lit (.string [97, 110, 111, 116, 104, 101, 114, 32, 102, 97, 99, 101])]))

/-- 'pendulumlaw1.WireForms': WHATEVER THE INPUT: true; the input reads as it did. -/
def wireFormsSpec : ChangeSpec := { name := "wireForms", fn := fun _ => fun
  | [d1, d2] => { results := [.lit (.bool true)], args := [d1, d2] }
  | _ => none }
def wireFormsRow : OpenClaim := { program := "ytpiafijccnbdbaadoor", sum := "ada787155a4bd7d2f0384c783639de8a07230b4c6d45e034d3528a2a07f1d386", func := "pendulum/pendulumlaw1.WireForms", spec := "wireForms", named := ["pendulum/api.ErrRange", "pendulum/api.ErrEnd", "pendulum/api.ErrShape", "pendulum/api.ErrMany", "pendulum/api.ErrRune", "pendulum/api.ErrWord", "pendulum/api.ErrNumber", "pendulum/api.ErrDeep", "pendulum/api.ErrName", "pendulum/api.ErrTwice", "pendulum/api.ErrType", "pendulum/api.ErrClock", "pendulum/api.ErrLoop", "pendulum/api.ErrInit", "pendulum/api.ErrArity", "pendulum/api.ErrNone", "pendulum/api.ErrThere", "pendulum/api.ErrFull", "pendulum/api.ErrCrash", "pendulum/api.ErrState", "pendulum/api.ErrFace"], apart := false, laid := [("pendulum/api.ErrEnd", laid_pendulum_api_ErrEnd), ("pendulum/api.ErrShape", laid_pendulum_api_ErrShape), ("pendulum/api.ErrMany", laid_pendulum_api_ErrMany), ("pendulum/api.ErrRange", laid_pendulum_api_ErrRange), ("pendulum/api.ErrRune", laid_pendulum_api_ErrRune), ("pendulum/api.ErrWord", laid_pendulum_api_ErrWord), ("pendulum/api.ErrNumber", laid_pendulum_api_ErrNumber), ("pendulum/api.ErrDeep", laid_pendulum_api_ErrDeep), ("pendulum/api.ErrName", laid_pendulum_api_ErrName), ("pendulum/api.ErrTwice", laid_pendulum_api_ErrTwice), ("pendulum/api.ErrType", laid_pendulum_api_ErrType), ("pendulum/api.ErrClock", laid_pendulum_api_ErrClock), ("pendulum/api.ErrLoop", laid_pendulum_api_ErrLoop), ("pendulum/api.ErrInit", laid_pendulum_api_ErrInit), ("pendulum/api.ErrArity", laid_pendulum_api_ErrArity), ("pendulum/api.ErrNone", laid_pendulum_api_ErrNone), ("pendulum/api.ErrThere", laid_pendulum_api_ErrThere), ("pendulum/api.ErrFull", laid_pendulum_api_ErrFull), ("pendulum/api.ErrCrash", laid_pendulum_api_ErrCrash), ("pendulum/api.ErrState", laid_pendulum_api_ErrState), ("pendulum/api.ErrFace", laid_pendulum_api_ErrFace)] }
def WireFormsSaid : Prop := wireFormsRow.holds Tryd.pinned (OpenSpec.ofChange wireFormsSpec)

/-- ITS FALSE NEIGHBOUR: 'it returns false'. Refute it at one input. -/
def wireFormsWrong : ChangeSpec := { name := "wireForms", fn := fun _ => fun
  | [d1, d2] => { results := [.lit (.bool false)], args := [d1, d2] }
  | _ => none }
def WireFormsWrongFalsely : Prop := wireFormsRow.holds Tryd.pinned (OpenSpec.ofChange wireFormsWrong)

/-- 'pendulumlaw1.WireTwins': WHATEVER THE INPUT: true; the input reads as it did. -/
def wireTwinsSpec : ChangeSpec := { name := "wireTwins", fn := fun _ => fun
  | [d1, d2] => { results := [.lit (.bool true)], args := [d1, d2] }
  | _ => none }
def wireTwinsRow : OpenClaim := { program := "ytpiafijccnbdbaadoor", sum := "ada787155a4bd7d2f0384c783639de8a07230b4c6d45e034d3528a2a07f1d386", func := "pendulum/pendulumlaw1.WireTwins", spec := "wireTwins", named := ["pendulum/api.ErrRange", "pendulum/api.ErrEnd", "pendulum/api.ErrShape"], apart := false, laid := [("pendulum/api.ErrEnd", laid_pendulum_api_ErrEnd), ("pendulum/api.ErrShape", laid_pendulum_api_ErrShape), ("pendulum/api.ErrRange", laid_pendulum_api_ErrRange)] }
def WireTwinsSaid : Prop := wireTwinsRow.holds Tryd.pinned (OpenSpec.ofChange wireTwinsSpec)

/-- ITS FALSE NEIGHBOUR: 'it returns false'. Refute it at one input. -/
def wireTwinsWrong : ChangeSpec := { name := "wireTwins", fn := fun _ => fun
  | [d1, d2] => { results := [.lit (.bool false)], args := [d1, d2] }
  | _ => none }
def WireTwinsWrongFalsely : Prop := wireTwinsRow.holds Tryd.pinned (OpenSpec.ofChange wireTwinsWrong)

/-- 'pendulumlaw1.WirePuts': WHATEVER THE INPUT: true; the input reads as it did. -/
def wirePutsSpec : ChangeSpec := { name := "wirePuts", fn := fun _ => fun
  | [d1, d2, d3] => { results := [.lit (.bool true)], args := [d1, d2, d3] }
  | _ => none }
def wirePutsRow : OpenClaim := { program := "ytpiafijccnbdbaadoor", sum := "ada787155a4bd7d2f0384c783639de8a07230b4c6d45e034d3528a2a07f1d386", func := "pendulum/pendulumlaw1.WirePuts", spec := "wirePuts", named := ["pendulum/api.ErrRange", "pendulum/api.ErrEnd", "pendulum/api.ErrShape"], apart := false, laid := [("pendulum/api.ErrEnd", laid_pendulum_api_ErrEnd), ("pendulum/api.ErrShape", laid_pendulum_api_ErrShape), ("pendulum/api.ErrRange", laid_pendulum_api_ErrRange)] }
def WirePutsSaid : Prop := wirePutsRow.holds Tryd.pinned (OpenSpec.ofChange wirePutsSpec)

/-- ITS FALSE NEIGHBOUR: 'it returns false'. Refute it at one input. -/
def wirePutsWrong : ChangeSpec := { name := "wirePuts", fn := fun _ => fun
  | [d1, d2, d3] => { results := [.lit (.bool false)], args := [d1, d2, d3] }
  | _ => none }
def WirePutsWrongFalsely : Prop := wirePutsRow.holds Tryd.pinned (OpenSpec.ofChange wirePutsWrong)

/-- 'pendulumlaw1.WireRanges': WHATEVER THE INPUT: true; the input reads as it did. -/
def wireRangesSpec : ChangeSpec := { name := "wireRanges", fn := fun _ => fun
  | [d1, d2, d3, d4] => { results := [.lit (.bool true)], args := [d1, d2, d3, d4] }
  | _ => none }
def wireRangesRow : OpenClaim := { program := "ytpiafijccnbdbaadoor", sum := "ada787155a4bd7d2f0384c783639de8a07230b4c6d45e034d3528a2a07f1d386", func := "pendulum/pendulumlaw1.WireRanges", spec := "wireRanges", named := ["pendulum/api.ErrRange", "pendulum/api.ErrEnd", "pendulum/api.ErrShape", "pendulum/api.ErrMany", "pendulum/api.ErrRune", "pendulum/api.ErrWord", "pendulum/api.ErrNumber", "pendulum/api.ErrDeep", "pendulum/api.ErrName", "pendulum/api.ErrTwice", "pendulum/api.ErrType", "pendulum/api.ErrClock", "pendulum/api.ErrLoop", "pendulum/api.ErrInit", "pendulum/api.ErrArity", "pendulum/api.ErrNone", "pendulum/api.ErrThere", "pendulum/api.ErrFull", "pendulum/api.ErrCrash", "pendulum/api.ErrState", "pendulum/api.ErrFace"], apart := false, laid := [("pendulum/api.ErrEnd", laid_pendulum_api_ErrEnd), ("pendulum/api.ErrShape", laid_pendulum_api_ErrShape), ("pendulum/api.ErrMany", laid_pendulum_api_ErrMany), ("pendulum/api.ErrRange", laid_pendulum_api_ErrRange), ("pendulum/api.ErrRune", laid_pendulum_api_ErrRune), ("pendulum/api.ErrWord", laid_pendulum_api_ErrWord), ("pendulum/api.ErrNumber", laid_pendulum_api_ErrNumber), ("pendulum/api.ErrDeep", laid_pendulum_api_ErrDeep), ("pendulum/api.ErrName", laid_pendulum_api_ErrName), ("pendulum/api.ErrTwice", laid_pendulum_api_ErrTwice), ("pendulum/api.ErrType", laid_pendulum_api_ErrType), ("pendulum/api.ErrClock", laid_pendulum_api_ErrClock), ("pendulum/api.ErrLoop", laid_pendulum_api_ErrLoop), ("pendulum/api.ErrInit", laid_pendulum_api_ErrInit), ("pendulum/api.ErrArity", laid_pendulum_api_ErrArity), ("pendulum/api.ErrNone", laid_pendulum_api_ErrNone), ("pendulum/api.ErrThere", laid_pendulum_api_ErrThere), ("pendulum/api.ErrFull", laid_pendulum_api_ErrFull), ("pendulum/api.ErrCrash", laid_pendulum_api_ErrCrash), ("pendulum/api.ErrState", laid_pendulum_api_ErrState), ("pendulum/api.ErrFace", laid_pendulum_api_ErrFace)] }
def WireRangesSaid : Prop := wireRangesRow.holds Tryd.pinned (OpenSpec.ofChange wireRangesSpec)

/-- ITS FALSE NEIGHBOUR: 'it returns false'. Refute it at one input. -/
def wireRangesWrong : ChangeSpec := { name := "wireRanges", fn := fun _ => fun
  | [d1, d2, d3, d4] => { results := [.lit (.bool false)], args := [d1, d2, d3, d4] }
  | _ => none }
def WireRangesWrongFalsely : Prop := wireRangesRow.holds Tryd.pinned (OpenSpec.ofChange wireRangesWrong)

/-- 'pendulumlaw1.WireRows': WHATEVER THE INPUT: true; the input reads as it did. -/
def wireRowsSpec : ChangeSpec := { name := "wireRows", fn := fun _ => fun
  | [d1, d2, d3] => { results := [.lit (.bool true)], args := [d1, d2, d3] }
  | _ => none }
def wireRowsRow : OpenClaim := { program := "ytpiafijccnbdbaadoor", sum := "ada787155a4bd7d2f0384c783639de8a07230b4c6d45e034d3528a2a07f1d386", func := "pendulum/pendulumlaw1.WireRows", spec := "wireRows", named := ["pendulum/api.ErrRange", "pendulum/api.ErrEnd", "pendulum/api.ErrShape", "pendulum/api.ErrMany", "pendulum/api.ErrRune", "pendulum/api.ErrWord", "pendulum/api.ErrNumber", "pendulum/api.ErrDeep", "pendulum/api.ErrName", "pendulum/api.ErrTwice", "pendulum/api.ErrType", "pendulum/api.ErrClock", "pendulum/api.ErrLoop", "pendulum/api.ErrInit", "pendulum/api.ErrArity", "pendulum/api.ErrNone", "pendulum/api.ErrThere", "pendulum/api.ErrFull", "pendulum/api.ErrCrash", "pendulum/api.ErrState", "pendulum/api.ErrFace"], apart := false, laid := [("pendulum/api.ErrEnd", laid_pendulum_api_ErrEnd), ("pendulum/api.ErrShape", laid_pendulum_api_ErrShape), ("pendulum/api.ErrMany", laid_pendulum_api_ErrMany), ("pendulum/api.ErrRange", laid_pendulum_api_ErrRange), ("pendulum/api.ErrRune", laid_pendulum_api_ErrRune), ("pendulum/api.ErrWord", laid_pendulum_api_ErrWord), ("pendulum/api.ErrNumber", laid_pendulum_api_ErrNumber), ("pendulum/api.ErrDeep", laid_pendulum_api_ErrDeep), ("pendulum/api.ErrName", laid_pendulum_api_ErrName), ("pendulum/api.ErrTwice", laid_pendulum_api_ErrTwice), ("pendulum/api.ErrType", laid_pendulum_api_ErrType), ("pendulum/api.ErrClock", laid_pendulum_api_ErrClock), ("pendulum/api.ErrLoop", laid_pendulum_api_ErrLoop), ("pendulum/api.ErrInit", laid_pendulum_api_ErrInit), ("pendulum/api.ErrArity", laid_pendulum_api_ErrArity), ("pendulum/api.ErrNone", laid_pendulum_api_ErrNone), ("pendulum/api.ErrThere", laid_pendulum_api_ErrThere), ("pendulum/api.ErrFull", laid_pendulum_api_ErrFull), ("pendulum/api.ErrCrash", laid_pendulum_api_ErrCrash), ("pendulum/api.ErrState", laid_pendulum_api_ErrState), ("pendulum/api.ErrFace", laid_pendulum_api_ErrFace)] }
def WireRowsSaid : Prop := wireRowsRow.holds Tryd.pinned (OpenSpec.ofChange wireRowsSpec)

/-- ITS FALSE NEIGHBOUR: 'it returns false'. Refute it at one input. -/
def wireRowsWrong : ChangeSpec := { name := "wireRows", fn := fun _ => fun
  | [d1, d2, d3] => { results := [.lit (.bool false)], args := [d1, d2, d3] }
  | _ => none }
def WireRowsWrongFalsely : Prop := wireRowsRow.holds Tryd.pinned (OpenSpec.ofChange wireRowsWrong)

/-- 'pendulumlaw1.WireLengths': WHATEVER THE INPUT: true; the input reads as it did. -/
def wireLengthsSpec : ChangeSpec := { name := "wireLengths", fn := fun _ => fun
  | [d1, d2] => { results := [.lit (.bool true)], args := [d1, d2] }
  | _ => none }
def wireLengthsRow : OpenClaim := { program := "ytpiafijccnbdbaadoor", sum := "ada787155a4bd7d2f0384c783639de8a07230b4c6d45e034d3528a2a07f1d386", func := "pendulum/pendulumlaw1.WireLengths", spec := "wireLengths", named := ["pendulum/api.ErrRange", "pendulum/api.ErrEnd", "pendulum/api.ErrShape", "pendulum/api.ErrMany", "pendulum/api.ErrRune", "pendulum/api.ErrWord", "pendulum/api.ErrNumber", "pendulum/api.ErrDeep", "pendulum/api.ErrName", "pendulum/api.ErrTwice", "pendulum/api.ErrType", "pendulum/api.ErrClock", "pendulum/api.ErrLoop", "pendulum/api.ErrInit", "pendulum/api.ErrArity", "pendulum/api.ErrNone", "pendulum/api.ErrThere", "pendulum/api.ErrFull", "pendulum/api.ErrCrash", "pendulum/api.ErrState", "pendulum/api.ErrFace"], apart := false, laid := [("pendulum/api.ErrEnd", laid_pendulum_api_ErrEnd), ("pendulum/api.ErrShape", laid_pendulum_api_ErrShape), ("pendulum/api.ErrMany", laid_pendulum_api_ErrMany), ("pendulum/api.ErrRange", laid_pendulum_api_ErrRange), ("pendulum/api.ErrRune", laid_pendulum_api_ErrRune), ("pendulum/api.ErrWord", laid_pendulum_api_ErrWord), ("pendulum/api.ErrNumber", laid_pendulum_api_ErrNumber), ("pendulum/api.ErrDeep", laid_pendulum_api_ErrDeep), ("pendulum/api.ErrName", laid_pendulum_api_ErrName), ("pendulum/api.ErrTwice", laid_pendulum_api_ErrTwice), ("pendulum/api.ErrType", laid_pendulum_api_ErrType), ("pendulum/api.ErrClock", laid_pendulum_api_ErrClock), ("pendulum/api.ErrLoop", laid_pendulum_api_ErrLoop), ("pendulum/api.ErrInit", laid_pendulum_api_ErrInit), ("pendulum/api.ErrArity", laid_pendulum_api_ErrArity), ("pendulum/api.ErrNone", laid_pendulum_api_ErrNone), ("pendulum/api.ErrThere", laid_pendulum_api_ErrThere), ("pendulum/api.ErrFull", laid_pendulum_api_ErrFull), ("pendulum/api.ErrCrash", laid_pendulum_api_ErrCrash), ("pendulum/api.ErrState", laid_pendulum_api_ErrState), ("pendulum/api.ErrFace", laid_pendulum_api_ErrFace)] }
def WireLengthsSaid : Prop := wireLengthsRow.holds Tryd.pinned (OpenSpec.ofChange wireLengthsSpec)

/-- ITS FALSE NEIGHBOUR: 'it returns false'. Refute it at one input. -/
def wireLengthsWrong : ChangeSpec := { name := "wireLengths", fn := fun _ => fun
  | [d1, d2] => { results := [.lit (.bool false)], args := [d1, d2] }
  | _ => none }
def WireLengthsWrongFalsely : Prop := wireLengthsRow.holds Tryd.pinned (OpenSpec.ofChange wireLengthsWrong)

/- THE SECOND FORM. 'bulk': how many values and letters a reading holds, each counted each time it is reached (what is shared counts as often as it is met; a slice's spare places count too). A statement '..UptoSaid' is the law's where the arguments, and the package variables that the reading takes, are together of bulk at most 1048576: NARROWER than '..Said'. Prove '..Said' where nothing that the law and all that it calls make is longer than what came in: it says more and counts as full. Else prove '..UptoSaid'. A law counts once. -/
mutual
def uptoBulk {H : Type} : DataW H → Nat
  | .lit (.string bytes) => bytes.length + 1
  | .lit _ => 1
  | .nil => 1
  | .ptr d => uptoBulk d + 1
  | .slice elems spare => uptoBulkAll elems + uptoBulkAll spare + 1
  | .agg parts => uptoBulkAll parts + 1
  | .iface _ d => uptoBulk d + 1
  | .map entries => uptoBulkEntries entries + 1
  | .held _ => 1
def uptoBulkAll {H : Type} : List (DataW H) → Nat
  | [] => 0
  | d :: r => uptoBulk d + uptoBulkAll r
def uptoBulkEntries {H : Type} : List (Lit × DataW H) → Nat
  | [] => 0
  | x :: r => uptoBulkEntry x + uptoBulkEntries r
def uptoBulkEntry {H : Type} : Lit × DataW H → Nat
  | (.string bytes, d) => bytes.length + uptoBulk d + 1
  | (_, d) => uptoBulk d + 1
 end
def uptoSmall : (H : Type) → List (DataW H) → Bool := fun _ ds => decide (uptoBulkAll ds ≤ 1048576)
def OpenSpec.upto (s : _root_.Go.ChangeSpec) : _root_.Go.OpenSpec := { _root_.Go.OpenSpec.ofChange s with cond := some uptoSmall }

/-- 'pendulumlaw1.WireForms', WHERE WHAT IT READS IS OF BULK AT MOST 1048576: true; the input reads as it did. -/
def wireFormsUptoRow : OpenClaim := { program := "ytpiafijccnbdbaadoor", sum := "ada787155a4bd7d2f0384c783639de8a07230b4c6d45e034d3528a2a07f1d386", func := "pendulum/pendulumlaw1.WireForms", spec := "wireForms", named := ["pendulum/api.ErrRange", "pendulum/api.ErrEnd", "pendulum/api.ErrShape", "pendulum/api.ErrMany", "pendulum/api.ErrRune", "pendulum/api.ErrWord", "pendulum/api.ErrNumber", "pendulum/api.ErrDeep", "pendulum/api.ErrName", "pendulum/api.ErrTwice", "pendulum/api.ErrType", "pendulum/api.ErrClock", "pendulum/api.ErrLoop", "pendulum/api.ErrInit", "pendulum/api.ErrArity", "pendulum/api.ErrNone", "pendulum/api.ErrThere", "pendulum/api.ErrFull", "pendulum/api.ErrCrash", "pendulum/api.ErrState", "pendulum/api.ErrFace"], apart := false, laid := [("pendulum/api.ErrEnd", laid_pendulum_api_ErrEnd), ("pendulum/api.ErrShape", laid_pendulum_api_ErrShape), ("pendulum/api.ErrMany", laid_pendulum_api_ErrMany), ("pendulum/api.ErrRange", laid_pendulum_api_ErrRange), ("pendulum/api.ErrRune", laid_pendulum_api_ErrRune), ("pendulum/api.ErrWord", laid_pendulum_api_ErrWord), ("pendulum/api.ErrNumber", laid_pendulum_api_ErrNumber), ("pendulum/api.ErrDeep", laid_pendulum_api_ErrDeep), ("pendulum/api.ErrName", laid_pendulum_api_ErrName), ("pendulum/api.ErrTwice", laid_pendulum_api_ErrTwice), ("pendulum/api.ErrType", laid_pendulum_api_ErrType), ("pendulum/api.ErrClock", laid_pendulum_api_ErrClock), ("pendulum/api.ErrLoop", laid_pendulum_api_ErrLoop), ("pendulum/api.ErrInit", laid_pendulum_api_ErrInit), ("pendulum/api.ErrArity", laid_pendulum_api_ErrArity), ("pendulum/api.ErrNone", laid_pendulum_api_ErrNone), ("pendulum/api.ErrThere", laid_pendulum_api_ErrThere), ("pendulum/api.ErrFull", laid_pendulum_api_ErrFull), ("pendulum/api.ErrCrash", laid_pendulum_api_ErrCrash), ("pendulum/api.ErrState", laid_pendulum_api_ErrState), ("pendulum/api.ErrFace", laid_pendulum_api_ErrFace)], narrowed := true }
def WireFormsUptoSaid : Prop := wireFormsUptoRow.holds Tryd.pinned (OpenSpec.upto wireFormsSpec)

/-- 'pendulumlaw1.WireTwins', WHERE WHAT IT READS IS OF BULK AT MOST 1048576: true; the input reads as it did. -/
def wireTwinsUptoRow : OpenClaim := { program := "ytpiafijccnbdbaadoor", sum := "ada787155a4bd7d2f0384c783639de8a07230b4c6d45e034d3528a2a07f1d386", func := "pendulum/pendulumlaw1.WireTwins", spec := "wireTwins", named := ["pendulum/api.ErrRange", "pendulum/api.ErrEnd", "pendulum/api.ErrShape"], apart := false, laid := [("pendulum/api.ErrEnd", laid_pendulum_api_ErrEnd), ("pendulum/api.ErrShape", laid_pendulum_api_ErrShape), ("pendulum/api.ErrRange", laid_pendulum_api_ErrRange)], narrowed := true }
def WireTwinsUptoSaid : Prop := wireTwinsUptoRow.holds Tryd.pinned (OpenSpec.upto wireTwinsSpec)

/-- 'pendulumlaw1.WirePuts', WHERE WHAT IT READS IS OF BULK AT MOST 1048576: true; the input reads as it did. -/
def wirePutsUptoRow : OpenClaim := { program := "ytpiafijccnbdbaadoor", sum := "ada787155a4bd7d2f0384c783639de8a07230b4c6d45e034d3528a2a07f1d386", func := "pendulum/pendulumlaw1.WirePuts", spec := "wirePuts", named := ["pendulum/api.ErrRange", "pendulum/api.ErrEnd", "pendulum/api.ErrShape"], apart := false, laid := [("pendulum/api.ErrEnd", laid_pendulum_api_ErrEnd), ("pendulum/api.ErrShape", laid_pendulum_api_ErrShape), ("pendulum/api.ErrRange", laid_pendulum_api_ErrRange)], narrowed := true }
def WirePutsUptoSaid : Prop := wirePutsUptoRow.holds Tryd.pinned (OpenSpec.upto wirePutsSpec)

/-- 'pendulumlaw1.WireRanges', WHERE WHAT IT READS IS OF BULK AT MOST 1048576: true; the input reads as it did. -/
def wireRangesUptoRow : OpenClaim := { program := "ytpiafijccnbdbaadoor", sum := "ada787155a4bd7d2f0384c783639de8a07230b4c6d45e034d3528a2a07f1d386", func := "pendulum/pendulumlaw1.WireRanges", spec := "wireRanges", named := ["pendulum/api.ErrRange", "pendulum/api.ErrEnd", "pendulum/api.ErrShape", "pendulum/api.ErrMany", "pendulum/api.ErrRune", "pendulum/api.ErrWord", "pendulum/api.ErrNumber", "pendulum/api.ErrDeep", "pendulum/api.ErrName", "pendulum/api.ErrTwice", "pendulum/api.ErrType", "pendulum/api.ErrClock", "pendulum/api.ErrLoop", "pendulum/api.ErrInit", "pendulum/api.ErrArity", "pendulum/api.ErrNone", "pendulum/api.ErrThere", "pendulum/api.ErrFull", "pendulum/api.ErrCrash", "pendulum/api.ErrState", "pendulum/api.ErrFace"], apart := false, laid := [("pendulum/api.ErrEnd", laid_pendulum_api_ErrEnd), ("pendulum/api.ErrShape", laid_pendulum_api_ErrShape), ("pendulum/api.ErrMany", laid_pendulum_api_ErrMany), ("pendulum/api.ErrRange", laid_pendulum_api_ErrRange), ("pendulum/api.ErrRune", laid_pendulum_api_ErrRune), ("pendulum/api.ErrWord", laid_pendulum_api_ErrWord), ("pendulum/api.ErrNumber", laid_pendulum_api_ErrNumber), ("pendulum/api.ErrDeep", laid_pendulum_api_ErrDeep), ("pendulum/api.ErrName", laid_pendulum_api_ErrName), ("pendulum/api.ErrTwice", laid_pendulum_api_ErrTwice), ("pendulum/api.ErrType", laid_pendulum_api_ErrType), ("pendulum/api.ErrClock", laid_pendulum_api_ErrClock), ("pendulum/api.ErrLoop", laid_pendulum_api_ErrLoop), ("pendulum/api.ErrInit", laid_pendulum_api_ErrInit), ("pendulum/api.ErrArity", laid_pendulum_api_ErrArity), ("pendulum/api.ErrNone", laid_pendulum_api_ErrNone), ("pendulum/api.ErrThere", laid_pendulum_api_ErrThere), ("pendulum/api.ErrFull", laid_pendulum_api_ErrFull), ("pendulum/api.ErrCrash", laid_pendulum_api_ErrCrash), ("pendulum/api.ErrState", laid_pendulum_api_ErrState), ("pendulum/api.ErrFace", laid_pendulum_api_ErrFace)], narrowed := true }
def WireRangesUptoSaid : Prop := wireRangesUptoRow.holds Tryd.pinned (OpenSpec.upto wireRangesSpec)

/-- 'pendulumlaw1.WireRows', WHERE WHAT IT READS IS OF BULK AT MOST 1048576: true; the input reads as it did. -/
def wireRowsUptoRow : OpenClaim := { program := "ytpiafijccnbdbaadoor", sum := "ada787155a4bd7d2f0384c783639de8a07230b4c6d45e034d3528a2a07f1d386", func := "pendulum/pendulumlaw1.WireRows", spec := "wireRows", named := ["pendulum/api.ErrRange", "pendulum/api.ErrEnd", "pendulum/api.ErrShape", "pendulum/api.ErrMany", "pendulum/api.ErrRune", "pendulum/api.ErrWord", "pendulum/api.ErrNumber", "pendulum/api.ErrDeep", "pendulum/api.ErrName", "pendulum/api.ErrTwice", "pendulum/api.ErrType", "pendulum/api.ErrClock", "pendulum/api.ErrLoop", "pendulum/api.ErrInit", "pendulum/api.ErrArity", "pendulum/api.ErrNone", "pendulum/api.ErrThere", "pendulum/api.ErrFull", "pendulum/api.ErrCrash", "pendulum/api.ErrState", "pendulum/api.ErrFace"], apart := false, laid := [("pendulum/api.ErrEnd", laid_pendulum_api_ErrEnd), ("pendulum/api.ErrShape", laid_pendulum_api_ErrShape), ("pendulum/api.ErrMany", laid_pendulum_api_ErrMany), ("pendulum/api.ErrRange", laid_pendulum_api_ErrRange), ("pendulum/api.ErrRune", laid_pendulum_api_ErrRune), ("pendulum/api.ErrWord", laid_pendulum_api_ErrWord), ("pendulum/api.ErrNumber", laid_pendulum_api_ErrNumber), ("pendulum/api.ErrDeep", laid_pendulum_api_ErrDeep), ("pendulum/api.ErrName", laid_pendulum_api_ErrName), ("pendulum/api.ErrTwice", laid_pendulum_api_ErrTwice), ("pendulum/api.ErrType", laid_pendulum_api_ErrType), ("pendulum/api.ErrClock", laid_pendulum_api_ErrClock), ("pendulum/api.ErrLoop", laid_pendulum_api_ErrLoop), ("pendulum/api.ErrInit", laid_pendulum_api_ErrInit), ("pendulum/api.ErrArity", laid_pendulum_api_ErrArity), ("pendulum/api.ErrNone", laid_pendulum_api_ErrNone), ("pendulum/api.ErrThere", laid_pendulum_api_ErrThere), ("pendulum/api.ErrFull", laid_pendulum_api_ErrFull), ("pendulum/api.ErrCrash", laid_pendulum_api_ErrCrash), ("pendulum/api.ErrState", laid_pendulum_api_ErrState), ("pendulum/api.ErrFace", laid_pendulum_api_ErrFace)], narrowed := true }
def WireRowsUptoSaid : Prop := wireRowsUptoRow.holds Tryd.pinned (OpenSpec.upto wireRowsSpec)

/-- 'pendulumlaw1.WireLengths', WHERE WHAT IT READS IS OF BULK AT MOST 1048576: true; the input reads as it did. -/
def wireLengthsUptoRow : OpenClaim := { program := "ytpiafijccnbdbaadoor", sum := "ada787155a4bd7d2f0384c783639de8a07230b4c6d45e034d3528a2a07f1d386", func := "pendulum/pendulumlaw1.WireLengths", spec := "wireLengths", named := ["pendulum/api.ErrRange", "pendulum/api.ErrEnd", "pendulum/api.ErrShape", "pendulum/api.ErrMany", "pendulum/api.ErrRune", "pendulum/api.ErrWord", "pendulum/api.ErrNumber", "pendulum/api.ErrDeep", "pendulum/api.ErrName", "pendulum/api.ErrTwice", "pendulum/api.ErrType", "pendulum/api.ErrClock", "pendulum/api.ErrLoop", "pendulum/api.ErrInit", "pendulum/api.ErrArity", "pendulum/api.ErrNone", "pendulum/api.ErrThere", "pendulum/api.ErrFull", "pendulum/api.ErrCrash", "pendulum/api.ErrState", "pendulum/api.ErrFace"], apart := false, laid := [("pendulum/api.ErrEnd", laid_pendulum_api_ErrEnd), ("pendulum/api.ErrShape", laid_pendulum_api_ErrShape), ("pendulum/api.ErrMany", laid_pendulum_api_ErrMany), ("pendulum/api.ErrRange", laid_pendulum_api_ErrRange), ("pendulum/api.ErrRune", laid_pendulum_api_ErrRune), ("pendulum/api.ErrWord", laid_pendulum_api_ErrWord), ("pendulum/api.ErrNumber", laid_pendulum_api_ErrNumber), ("pendulum/api.ErrDeep", laid_pendulum_api_ErrDeep), ("pendulum/api.ErrName", laid_pendulum_api_ErrName), ("pendulum/api.ErrTwice", laid_pendulum_api_ErrTwice), ("pendulum/api.ErrType", laid_pendulum_api_ErrType), ("pendulum/api.ErrClock", laid_pendulum_api_ErrClock), ("pendulum/api.ErrLoop", laid_pendulum_api_ErrLoop), ("pendulum/api.ErrInit", laid_pendulum_api_ErrInit), ("pendulum/api.ErrArity", laid_pendulum_api_ErrArity), ("pendulum/api.ErrNone", laid_pendulum_api_ErrNone), ("pendulum/api.ErrThere", laid_pendulum_api_ErrThere), ("pendulum/api.ErrFull", laid_pendulum_api_ErrFull), ("pendulum/api.ErrCrash", laid_pendulum_api_ErrCrash), ("pendulum/api.ErrState", laid_pendulum_api_ErrState), ("pendulum/api.ErrFace", laid_pendulum_api_ErrFace)], narrowed := true }
def WireLengthsUptoSaid : Prop := wireLengthsUptoRow.holds Tryd.pinned (OpenSpec.upto wireLengthsSpec)

end Rows
end Go.Proofs.YtpiafijccnbdbaaDoor
