/- maps.Copy, maps.Clone, slices.Sorted of maps.Keys at this program. By this session. -/
import Derived.Test.YthbbokndogjopaaGreatDoorCmMe
import Derived.Test.YthbbokndogjopaaGreatDoorCmMp
import Derived.Test.YthbbokndogjopaaGreatDoorCmMs
import Derived.Test.YthbbokndogjopaaGreatDoorMaps
import Derived.Test.YthbbokndogjopaaGreatDoorShelf
import Derived.RangeFuncLeaves
namespace Go.Proofs.YthbbokndogjopaaGreatDoor.Sq
open Go Go.RowKit Go.Shelf Go.Maps Go.Sort
set_option linter.unusedVariables false
theorem copy_calls_int0 (bd bs nd ns : Nat) (Dd Ds : DataW Value) (w : World) (hd : w.ownsMap Tryz.prog 3 Cm.heldV bd nd Dd) (hs : w.ownsMap Tryz.prog 3 Cm.heldV bs ns Ds) (hne : bd ≠ bs) (hroom : nd + Maps.size Ds ≤ maxLen) :
    Calls Tryz.prog 66 #[.map (some bd), .map (some bs)] w fun e w' => e = .returned (.tuple #[]) ∧ w'.ownsMap Tryz.prog 3 Cm.heldV bd (nd + Maps.size Ds) (Lib.mergeD Dd Ds) ∧ w'.ownsMap Tryz.prog 3 Cm.heldV bs ns Ds ∧ w.grownBy w' (some bd) :=
  AnyX.maps_Copy Tryz.layMcopyint0 (int_keyed Tryz.underlying3) Cm.heldV bd bs nd ns Dd Ds w hd hs hne hroom
theorem sorts_int (m : Nat) : AnyZI.SortsIn Tryz.prog Tryz.laySortedint_ren Fence.wide m :=
  ⟨fun blk off cap ss W hH hb hl => callsIn_wide.2 (Tryz.slices_Sort_int blk off cap ss W hH hb hl), fun p cap W => callsIn_wide.2 (Tryz.slices_Sort_int_none p cap W)⟩
theorem sorted_calls_53 (Bm b nn : Nat) (D0 : DataW Value) (w : World) (hBm : Bm < w.heap.size) (hm : w.cell? ⟨Bm, 0, none⟩ = some (.map (some b))) (hown : w.ownsMap Tryz.prog 3 Cm.heldV b nn D0) (hN : Maps.size D0 ≤ 1099511627776) :
    Calls Tryz.prog 34 #[.func (.func 53) #[] #[.pointer (some ⟨Bm, 0, none⟩)]] w fun ev W' => ∃ (v : Value) (ss : List (Int)), ev = .returned v ∧ ss.Perm (intKeys D0) ∧
      W'.ownsRow w.heap.size 3 1 v ss.length ((ss.mergeSort (fun x y => decide (x ≤ y))).map encZ) ∧ (v = .slice none 0 0 ↔ ss = []) ∧ Below w.heap.size w W' :=
  (callsIn_wide (n := 10)).1 (AnyZI.sorted_in Tryz.laySortedint Fence.wide 10 trivial trivial trivial trivial rfl (by omega) (sorts_int _) (enters_of Tryz.func52 (by kernel_rfl) rfl) 53 #[.pointer (some ⟨Bm, 0, none⟩)] trivial (enters_of Tryz.func53 (by kernel_rfl) rfl)
    (fun ss => ss.Perm (intKeys D0)) (Maps.size D0) (by simp only [maxLen]; omega) (by omega) w
    (AnyZI.keys_gives Tryz.layKeysint0 Fence.wide _ trivial rfl (by omega) Bm b nn D0 w hBm hm hown))
theorem clone_calls_string0 (b : Nat) (es : Array MapEntry) (clock : Nat) (w : World) (hb : w.heap[b]? = some (.map es clock)) : Calls Tryz.prog 33 #[.map (some b)] w fun e w' => e = .returned (.map (some w.heap.size)) ∧ w' = w.alloc (.map es clock) :=
  AnyW.maps_Clone Tryz.layMclonestring0 b es clock w hb
theorem sorts_string (m : Nat) : AnyZ.SortsIn Tryz.prog Tryz.laySortedstring_ren Fence.wide m :=
  ⟨fun blk off cap ss W hH hb hl => callsIn_wide.2 (Tryz.slices_Sort_string blk off cap ss W hH hb hl), fun p cap W => callsIn_wide.2 (Tryz.slices_Sort_string_none p cap W)⟩
theorem sorted_calls_62 (Bm b nn : Nat) (D0 : DataW Value) (w : World) (hBm : Bm < w.heap.size) (hm : w.cell? ⟨Bm, 0, none⟩ = some (.map (some b))) (hown : w.ownsMap Tryz.prog 9 Cm.heldV b nn D0) (hN : Maps.size D0 ≤ 1099511627776) :
    Calls Tryz.prog 40 #[.func (.func 62) #[] #[.pointer (some ⟨Bm, 0, none⟩)]] w fun ev W' => ∃ (v : Value) (ss : List (List UInt8)), ev = .returned v ∧ ss.Perm (strKeys D0) ∧
      W'.ownsRow w.heap.size 9 1 v ss.length ((ss.mergeSort (fun x y => decide (x ≤ y))).map encStr) ∧ (v = .slice none 0 0 ↔ ss = []) ∧ Below w.heap.size w W' :=
  (callsIn_wide (n := 10)).1 (AnyZ.sorted_in Tryz.laySortedstring Fence.wide 10 trivial trivial trivial trivial rfl (by omega) (sorts_string _) (enters_of Tryz.func61 (by kernel_rfl) rfl) 62 #[.pointer (some ⟨Bm, 0, none⟩)] trivial (enters_of Tryz.func62 (by kernel_rfl) rfl)
    (fun ss => ss.Perm (strKeys D0)) (Maps.size D0) (by simp only [maxLen]; omega) (by omega) w
    (AnyZ.keys_gives Tryz.layKeysstring0 Fence.wide _ trivial rfl (by omega) Bm b nn D0 w hBm hm hown))
theorem equal_calls_0 (b1 b2 n1 n2 : Nat) (D1 D2 : DataW Unit) (w : World) (h1 : w.ownsMap Tryz.prog 9 Cm.strR b1 n1 D1) (h2 : w.ownsMap Tryz.prog 9 Cm.strR b2 n2 D2) :
    Calls Tryz.prog 25 #[.map (some b1), .map (some b2)] w fun e w' => e = .returned (.bool (Lib.equalFuncD Cm.eqd3 D1 D2)) ∧ w.grownBy w' none :=
  AnyEq.maps_Equal_opt Tryz.layMequal0 (string_keyed Tryz.underlying9) Cm.strR Cm.strR Cm.eqd3 (some b1) (some b2) D1 D2 w (.inr ⟨b1, n1, rfl, h1⟩) (.inr ⟨b2, n2, rfl, h2⟩) (.string ⟨#[]⟩) Tryz.zeroValue9 (.lit (.string [])) [] rfl (Cm.neq_str Tryz.underlying9)
end Go.Proofs.YthbbokndogjopaaGreatDoor.Sq
