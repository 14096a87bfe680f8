/- maps.Copy, maps.Clone, slices.Sorted of maps.Keys at this program. By this session. -/
import Derived.Test.YtnajjhjbkanigaaDoorCmMp
import Derived.Test.YtnajjhjbkanigaaDoorCmMs
import Derived.Test.YtnajjhjbkanigaaDoorMaps
import Derived.Test.YtnajjhjbkanigaaDoorShelf
import Derived.RangeFuncLeaves
namespace Go.Proofs.YtnajjhjbkanigaaDoor.Sq
open Go Go.RowKit Go.Shelf Go.Maps Go.Sort
set_option linter.unusedVariables false
theorem sorts_string (m : Nat) : AnyZ.SortsIn Tryd.prog Tryd.laySortedstring_ren Fence.wide m :=
  ⟨fun blk off cap ss W hH hb hl => callsIn_wide.2 (Tryd.slices_Sort_string blk off cap ss W hH hb hl), fun p cap W => callsIn_wide.2 (Tryd.slices_Sort_string_none p cap W)⟩
theorem sorted_calls_96 (Bm b nn : Nat) (D0 : DataW Value) (w : World) (hBm : Bm < w.heap.size) (hm : w.cell? ⟨Bm, 0, none⟩ = some (.map (some b))) (hown : w.ownsMap Tryd.prog 9 Cm.heldV b nn D0) (hN : Maps.size D0 ≤ 1099511627776) :
    Calls Tryd.prog 72 #[.func (.func 96) #[] #[.pointer (some ⟨Bm, 0, none⟩)]] w fun ev W' => ∃ (v : Value) (ss : List (List UInt8)), ev = .returned v ∧ ss.Perm (strKeys D0) ∧
      W'.ownsRow w.heap.size 9 1 v ss.length ((ss.mergeSort (fun x y => decide (x ≤ y))).map encStr) ∧ (v = .slice none 0 0 ↔ ss = []) ∧ Below w.heap.size w W' :=
  (callsIn_wide (n := 10)).1 (AnyZ.sorted_in Tryd.laySortedstring Fence.wide 10 trivial trivial trivial trivial rfl (by omega) (sorts_string _) (enters_of Tryd.func91 (by kernel_rfl) rfl) 96 #[.pointer (some ⟨Bm, 0, none⟩)] trivial (enters_of Tryd.func96 (by kernel_rfl) rfl)
    (fun ss => ss.Perm (strKeys D0)) (Maps.size D0) (by simp only [maxLen]; omega) (by omega) w
    (AnyZ.keys_gives Tryd.layKeysstring0 Fence.wide _ trivial rfl (by omega) Bm b nn D0 w hBm hm hown))
theorem sorted_calls_111 (Bm b nn : Nat) (D0 : DataW Value) (w : World) (hBm : Bm < w.heap.size) (hm : w.cell? ⟨Bm, 0, none⟩ = some (.map (some b))) (hown : w.ownsMap Tryd.prog 9 Cm.heldV b nn D0) (hN : Maps.size D0 ≤ 1099511627776) :
    Calls Tryd.prog 72 #[.func (.func 111) #[] #[.pointer (some ⟨Bm, 0, none⟩)]] w fun ev W' => ∃ (v : Value) (ss : List (List UInt8)), ev = .returned v ∧ ss.Perm (strKeys D0) ∧
      W'.ownsRow w.heap.size 9 1 v ss.length ((ss.mergeSort (fun x y => decide (x ≤ y))).map encStr) ∧ (v = .slice none 0 0 ↔ ss = []) ∧ Below w.heap.size w W' :=
  (callsIn_wide (n := 10)).1 (AnyZ.sorted_in Tryd.laySortedstring Fence.wide 10 trivial trivial trivial trivial rfl (by omega) (sorts_string _) (enters_of Tryd.func91 (by kernel_rfl) rfl) 111 #[.pointer (some ⟨Bm, 0, none⟩)] trivial (enters_of Tryd.func111 (by kernel_rfl) rfl)
    (fun ss => ss.Perm (strKeys D0)) (Maps.size D0) (by simp only [maxLen]; omega) (by omega) w
    (AnyZ.keys_gives Tryd.layKeysstring1 Fence.wide _ trivial rfl (by omega) Bm b nn D0 w hBm hm hown))
end Go.Proofs.YtnajjhjbkanigaaDoor.Sq
