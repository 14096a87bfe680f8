/-
  No cell of these rows narrows 'for every input' (looked for: loops, veiled, ifaces, maps, wideKeys, modest, calm, conditions, laid).
  DERIVED. THE GIVEN ROWS OF THIS SEAT. 4 by the template 'for every input the law returns true; each argument reads behind the call as it read before'; 0 by the template 'total and deterministic' (their statements: YtbgapakobfpaeaaTotals.lean).
  GIVEN WITH THE SEED: the statements are not yours to turn. If you find one false, say at which input.
  Laid BY PROGRAM, IN A SANDBOX (cutbox-rows.mjs): the forced cells as the released guide's own fill.sh prints them over the translation 0584ae7448a73d75… (all of the seat's roots in one cut). By AI agents, Wed Nov 11 2026. No macro, syntax, notation, axiom, sorry.
-/
import Derived.Test.YtbgapakobfpaeaaChecked
import GoSem.Claim
import GoSem.ClaimJoined
import GoSem.ClaimMapViews
import Derived.JoinedTies
import Derived.KernelRfl
namespace Go.Proofs.Ytbgapakobfpaeaa
/- THE CELL 'sum', in the pinned program and in every row, IS THE sha256 OF THE DUMP (.gsa) THAT YtbgapakobfpaeaaProg.lean LOADS. Nothing in Lean hashes anything: it is a label: what it is worth is what the hold of that sum in a sandbox is worth. -/
noncomputable def Try.pinned : Pinned := { name := "ytbgapakobfpaeaa", sum := "0584ae7448a73d75f40c483d975170248a8aa08ca2175d658c122a73a5b65037", checked := Try.checked }
namespace Rows
def none {H : Type} : Left H := { results := [], args := [] }

/-- 'pendulumlaw2.MarkSteps': WHATEVER THE INPUT: true; the input reads as it did. -/
def markStepsSpec : ChangeSpec := { name := "markSteps", fn := fun _ => fun
  | [d1, d2, d3, d4] => { results := [.lit (.bool true)], args := [d1, d2, d3, d4] }
  | _ => none }
def markStepsRow : OpenClaim := { program := "ytbgapakobfpaeaa", sum := "0584ae7448a73d75f40c483d975170248a8aa08ca2175d658c122a73a5b65037", func := "pendulum/pendulumlaw2.MarkSteps", spec := "markSteps", apart := false }
def MarkStepsSaid : Prop := markStepsRow.holds Try.pinned (OpenSpec.ofChange markStepsSpec)

/-- ITS FALSE NEIGHBOUR: 'it returns false'. Refute it at one input. -/
def markStepsWrong : ChangeSpec := { name := "markSteps", fn := fun _ => fun
  | [d1, d2, d3, d4] => { results := [.lit (.bool false)], args := [d1, d2, d3, d4] }
  | _ => none }
def MarkStepsWrongFalsely : Prop := markStepsRow.holds Try.pinned (OpenSpec.ofChange markStepsWrong)

/-- 'pendulumlaw2.MarkSays': WHATEVER THE INPUT: true; the input reads as it did. -/
def markSaysSpec : ChangeSpec := { name := "markSays", fn := fun _ => fun
  | [d1, d2, d3] => { results := [.lit (.bool true)], args := [d1, d2, d3] }
  | _ => none }
def markSaysRow : OpenClaim := { program := "ytbgapakobfpaeaa", sum := "0584ae7448a73d75f40c483d975170248a8aa08ca2175d658c122a73a5b65037", func := "pendulum/pendulumlaw2.MarkSays", spec := "markSays", apart := false }
def MarkSaysSaid : Prop := markSaysRow.holds Try.pinned (OpenSpec.ofChange markSaysSpec)

/-- ITS FALSE NEIGHBOUR: 'it returns false'. Refute it at one input. -/
def markSaysWrong : ChangeSpec := { name := "markSays", fn := fun _ => fun
  | [d1, d2, d3] => { results := [.lit (.bool false)], args := [d1, d2, d3] }
  | _ => none }
def MarkSaysWrongFalsely : Prop := markSaysRow.holds Try.pinned (OpenSpec.ofChange markSaysWrong)

/-- 'pendulumlaw2.MarkBack': WHATEVER THE INPUT: true; the input reads as it did. -/
def markBackSpec : ChangeSpec := { name := "markBack", fn := fun _ => fun
  | [d1, d2, d3, d4] => { results := [.lit (.bool true)], args := [d1, d2, d3, d4] }
  | _ => none }
def markBackRow : OpenClaim := { program := "ytbgapakobfpaeaa", sum := "0584ae7448a73d75f40c483d975170248a8aa08ca2175d658c122a73a5b65037", func := "pendulum/pendulumlaw2.MarkBack", spec := "markBack", apart := false }
def MarkBackSaid : Prop := markBackRow.holds Try.pinned (OpenSpec.ofChange markBackSpec)

/-- ITS FALSE NEIGHBOUR: 'it returns false'. Refute it at one input. -/
def markBackWrong : ChangeSpec := { name := "markBack", fn := fun _ => fun
  | [d1, d2, d3, d4] => { results := [.lit (.bool false)], args := [d1, d2, d3, d4] }
  | _ => none }
def MarkBackWrongFalsely : Prop := markBackRow.holds Try.pinned (OpenSpec.ofChange markBackWrong)

/-- 'pendulumlaw2.MarkTexts': WHATEVER THE INPUT: true; the input reads as it did. -/
def markTextsSpec : ChangeSpec := { name := "markTexts", fn := fun _ => fun
  | [d1, d2, d3] => { results := [.lit (.bool true)], args := [d1, d2, d3] }
  | _ => none }
def markTextsRow : OpenClaim := { program := "ytbgapakobfpaeaa", sum := "0584ae7448a73d75f40c483d975170248a8aa08ca2175d658c122a73a5b65037", func := "pendulum/pendulumlaw2.MarkTexts", spec := "markTexts", apart := false }
def MarkTextsSaid : Prop := markTextsRow.holds Try.pinned (OpenSpec.ofChange markTextsSpec)

/-- ITS FALSE NEIGHBOUR: 'it returns false'. Refute it at one input. -/
def markTextsWrong : ChangeSpec := { name := "markTexts", fn := fun _ => fun
  | [d1, d2, d3] => { results := [.lit (.bool false)], args := [d1, d2, d3] }
  | _ => none }
def MarkTextsWrongFalsely : Prop := markTextsRow.holds Try.pinned (OpenSpec.ofChange markTextsWrong)

/- THE SECOND FORM. 'bulk': how many values and letters a reading holds, each counted each time it is reached (what is shared counts as often as it is met; a slice's spare places count too). A statement '..UptoSaid' is the law's where the arguments, and the package variables that the reading takes, are together of bulk at most 1048576: NARROWER than '..Said'. Prove '..Said' where nothing that the law and all that it calls make is longer than what came in: it says more and counts as full. Else prove '..UptoSaid'. A law counts once. -/
mutual
def uptoBulk {H : Type} : DataW H → Nat
  | .lit (.string bytes) => bytes.length + 1
  | .lit _ => 1
  | .nil => 1
  | .ptr d => uptoBulk d + 1
  | .slice elems spare => uptoBulkAll elems + uptoBulkAll spare + 1
  | .agg parts => uptoBulkAll parts + 1
  | .iface _ d => uptoBulk d + 1
  | .map entries => uptoBulkEntries entries + 1
  | .held _ => 1
def uptoBulkAll {H : Type} : List (DataW H) → Nat
  | [] => 0
  | d :: r => uptoBulk d + uptoBulkAll r
def uptoBulkEntries {H : Type} : List (Lit × DataW H) → Nat
  | [] => 0
  | x :: r => uptoBulkEntry x + uptoBulkEntries r
def uptoBulkEntry {H : Type} : Lit × DataW H → Nat
  | (.string bytes, d) => bytes.length + uptoBulk d + 1
  | (_, d) => uptoBulk d + 1
 end
def uptoSmall : (H : Type) → List (DataW H) → Bool := fun _ ds => decide (uptoBulkAll ds ≤ 1048576)
def OpenSpec.upto (s : _root_.Go.ChangeSpec) : _root_.Go.OpenSpec := { _root_.Go.OpenSpec.ofChange s with cond := some uptoSmall }

/-- 'pendulumlaw2.MarkSteps', WHERE WHAT IT READS IS OF BULK AT MOST 1048576: true; the input reads as it did. -/
def markStepsUptoRow : OpenClaim := { program := "ytbgapakobfpaeaa", sum := "0584ae7448a73d75f40c483d975170248a8aa08ca2175d658c122a73a5b65037", func := "pendulum/pendulumlaw2.MarkSteps", spec := "markSteps", apart := false, narrowed := true }
def MarkStepsUptoSaid : Prop := markStepsUptoRow.holds Try.pinned (OpenSpec.upto markStepsSpec)

/-- 'pendulumlaw2.MarkSays', WHERE WHAT IT READS IS OF BULK AT MOST 1048576: true; the input reads as it did. -/
def markSaysUptoRow : OpenClaim := { program := "ytbgapakobfpaeaa", sum := "0584ae7448a73d75f40c483d975170248a8aa08ca2175d658c122a73a5b65037", func := "pendulum/pendulumlaw2.MarkSays", spec := "markSays", apart := false, narrowed := true }
def MarkSaysUptoSaid : Prop := markSaysUptoRow.holds Try.pinned (OpenSpec.upto markSaysSpec)

/-- 'pendulumlaw2.MarkBack', WHERE WHAT IT READS IS OF BULK AT MOST 1048576: true; the input reads as it did. -/
def markBackUptoRow : OpenClaim := { program := "ytbgapakobfpaeaa", sum := "0584ae7448a73d75f40c483d975170248a8aa08ca2175d658c122a73a5b65037", func := "pendulum/pendulumlaw2.MarkBack", spec := "markBack", apart := false, narrowed := true }
def MarkBackUptoSaid : Prop := markBackUptoRow.holds Try.pinned (OpenSpec.upto markBackSpec)

/-- 'pendulumlaw2.MarkTexts', WHERE WHAT IT READS IS OF BULK AT MOST 1048576: true; the input reads as it did. -/
def markTextsUptoRow : OpenClaim := { program := "ytbgapakobfpaeaa", sum := "0584ae7448a73d75f40c483d975170248a8aa08ca2175d658c122a73a5b65037", func := "pendulum/pendulumlaw2.MarkTexts", spec := "markTexts", apart := false, narrowed := true }
def MarkTextsUptoSaid : Prop := markTextsUptoRow.holds Try.pinned (OpenSpec.upto markTextsSpec)

end Rows
end Go.Proofs.Ytbgapakobfpaeaa
