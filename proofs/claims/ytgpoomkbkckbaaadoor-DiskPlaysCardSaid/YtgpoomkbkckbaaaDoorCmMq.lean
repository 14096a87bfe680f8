/- maps.Copy, maps.Clone, slices.Sorted of maps.Keys at this program. By this session. -/
import Derived.Test.YtgpoomkbkckbaaaDoorCmMp
import Derived.Test.YtgpoomkbkckbaaaDoorMaps
import Derived.Test.YtgpoomkbkckbaaaDoorShelf
import Derived.RangeFuncLeaves
namespace Go.Proofs.YtgpoomkbkckbaaaDoor.Sq
open Go Go.RowKit Go.Shelf Go.Maps Go.Sort
set_option linter.unusedVariables false
theorem copy_calls (bd bs nd ns : Nat) (Dd Ds : DataW Value) (w : World) (hd : w.ownsMap Tryd.prog 3 Cm.heldV bd nd Dd) (hs : w.ownsMap Tryd.prog 3 Cm.heldV bs ns Ds) (hne : bd ≠ bs) (hroom : nd + Maps.size Ds ≤ maxLen) :
    Calls Tryd.prog 35 #[.map (some bd), .map (some bs)] w fun e w' => e = .returned (.tuple #[]) ∧ w'.ownsMap Tryd.prog 3 Cm.heldV bd (nd + Maps.size Ds) (Lib.mergeD Dd Ds) ∧ w'.ownsMap Tryd.prog 3 Cm.heldV bs ns Ds ∧ w.grownBy w' (some bd) :=
  AnyX.maps_Copy Tryd.layMcopy (int_keyed Tryd.underlying3) Cm.heldV bd bs nd ns Dd Ds w hd hs hne hroom
theorem clone_calls (b : Nat) (es : Array MapEntry) (clock : Nat) (w : World) (hb : w.heap[b]? = some (.map es clock)) : Calls Tryd.prog 38 #[.map (some b)] w fun e w' => e = .returned (.map (some w.heap.size)) ∧ w' = w.alloc (.map es clock) :=
  AnyW.maps_Clone Tryd.layMclone b es clock w hb
theorem sorts (m : Nat) : AnyZI.SortsIn Tryd.prog Tryd.laySorted_ren Fence.wide m :=
  ⟨fun blk off cap ss W hH hb hl => callsIn_wide.2 (Tryd.slices_Sort_int blk off cap ss W hH hb hl), fun p cap W => callsIn_wide.2 (Tryd.slices_Sort_int_none p cap W)⟩
theorem sorted_calls (Bm b nn : Nat) (D0 : DataW Value) (w : World) (hBm : Bm < w.heap.size) (hm : w.cell? ⟨Bm, 0, none⟩ = some (.map (some b))) (hown : w.ownsMap Tryd.prog 3 Cm.heldV b nn D0) (hN : Maps.size D0 ≤ 1099511627776) :
    Calls Tryd.prog 36 #[.func (.func 46) #[] #[.pointer (some ⟨Bm, 0, none⟩)]] w fun ev W' => ∃ (v : Value) (ss : List Int), ev = .returned v ∧ ss.Perm (intKeys D0) ∧
      W'.ownsRow w.heap.size 3 1 v ss.length ((ss.mergeSort (fun x y => decide (x ≤ y))).map encZ) ∧ (v = .slice none 0 0 ↔ ss = []) ∧ Below w.heap.size w W' :=
  (callsIn_wide (n := 10)).1 (AnyZI.sorted_in Tryd.laySorted Fence.wide 10 trivial trivial trivial trivial rfl (by omega) (sorts _) (enters_of Tryd.func45 (by kernel_rfl) rfl) 46 #[.pointer (some ⟨Bm, 0, none⟩)] trivial (enters_of Tryd.func46 (by kernel_rfl) rfl)
    (fun ss => ss.Perm (intKeys D0)) (Maps.size D0) (by simp only [maxLen]; omega) (by omega) w
    (AnyZI.keys_gives Tryd.layKeys Fence.wide _ trivial rfl (by omega) Bm b nn D0 w hBm hm hown))
end Go.Proofs.YtgpoomkbkckbaaaDoor.Sq
