/-
  DERIVED: THE SHELF's CONTRACTS AT THIS DUMP, IN PLAIN WORDS (tools/lay-plain.mjs out of 'TrydMaps.lean', which tools/lay-shelf.mjs wrote): THE SAME DECLARATIONS UNDER THE SAME NAMES: 'import', 'namespace', 'open', 'def', 'theorem' AND NOTHING ELSE: no command of the shelf's: FOR A HAND-IN. Each laying: the table of numbers ('.._ren') and one theorem, a field a fact of the dump's own or the kernel's comparison; each contract: ONE APPLICATION.
-/
import Derived.Shelf.SlIter.Sorted
import Derived.Test.YtnajjhjbkanigaaDoorProg
namespace Go.Proofs
open Go.Shelf
def Tryd.laySortedstring_ren : Go.Shelf.Ren := ⟨fun | 6 => 72 | 8 => 95 | 9 => 91 | 11 => 112 | 13 => 110 | 12 => 109 | 23 => 133 | 24 => 120 | 14 => 124 | 15 => 125 | 16 => 126 | 17 => 127 | 18 => 128 | 19 => 129 | 20 => 130 | 21 => 131 | 22 => 132 | 25 => 136 | 26 => 137 | 27 => 138 | 28 => 139 | 29 => 140 | 30 => 141 | 31 => 142 | n => n, fun | 26 => 9 | 28 => 108 | 24 => 38 | 0 => 0 | 3 => 3 | 37 => 145 | 48 => 157 | 50 => 138 | 4 => 4 | 40 => 162 | 39 => 161 | 45 => 167 | 5 => 5 | 9 => 9 | 51 => 170 | 55 => 174 | 57 => 178 | 58 => 179 | 33 => 78 | n => n, fun | n => n⟩
theorem Tryd.laySortedstring : Go.Proofs.SlLaysZ.n6 Tryd.prog Tryd.laySortedstring_ren := {
  mixed := by kernel_rfl
  f6 := ⟨Tryd.f72.name, by decide, Tryd.func72.trans (congrArg some (by kernel_rfl))⟩
  f8 := ⟨Tryd.f95.name, by decide, Tryd.func95.trans (congrArg some (by kernel_rfl))⟩
  f11 := ⟨Tryd.f112.name, by decide, Tryd.func112.trans (congrArg some (by kernel_rfl))⟩
  t0 := Tryd.underlying0
  a0 := Tryd.isAgg0
  z0 := Tryd.sizeOf0
  v0 := Tryd.zeroValue0
  t24 := Tryd.underlying38
  a24 := Tryd.isAgg38
  z24 := Tryd.sizeOf38
  v24 := Tryd.zeroValue38
  t26 := Tryd.underlying9
  a26 := Tryd.isAgg9
  z26 := Tryd.sizeOf9
  v26 := Tryd.zeroValue9
  t28 := Tryd.underlying108
  a28 := Tryd.isAgg108
  z28 := Tryd.sizeOf108
  v28 := Tryd.zeroValue108
  i26 := by kernel_rfl }
def Tryd.layKeysstring0_ren : Go.Shelf.Ren := ⟨fun | 10 => 96 | n => n, fun | 33 => 78 | 23 => 95 | 0 => 0 | 4 => 4 | 26 => 9 | 3 => 38 | n => n, fun | n => n⟩
theorem Tryd.layKeysstring0 : Go.Proofs.SlLaysZ.n10 Tryd.prog Tryd.layKeysstring0_ren := {
  mixed := by kernel_rfl
  f10 := ⟨Tryd.f96.name, by decide, Tryd.func96.trans (congrArg some (by kernel_rfl))⟩
  t0 := Tryd.underlying0
  a0 := Tryd.isAgg0
  z0 := Tryd.sizeOf0
  v0 := Tryd.zeroValue0
  t4 := Tryd.underlying4
  a4 := Tryd.isAgg4
  z4 := Tryd.sizeOf4
  v4 := Tryd.zeroValue4
  t23 := Tryd.underlying95
  a23 := Tryd.isAgg95
  z23 := Tryd.sizeOf95
  v23 := Tryd.zeroValue95
  t26 := Tryd.underlying9
  a26 := Tryd.isAgg9
  z26 := Tryd.sizeOf9
  v26 := Tryd.zeroValue9
  t33 := Tryd.underlying78
  a33 := Tryd.isAgg78
  z33 := Tryd.sizeOf78
  v33 := Tryd.zeroValue78 }
def Tryd.layKeysstring1_ren : Go.Shelf.Ren := ⟨fun | 10 => 111 | n => n, fun | 33 => 78 | 23 => 105 | 0 => 0 | 4 => 4 | 26 => 9 | 3 => 3 | n => n, fun | n => n⟩
theorem Tryd.layKeysstring1 : Go.Proofs.SlLaysZ.n10 Tryd.prog Tryd.layKeysstring1_ren := {
  mixed := by kernel_rfl
  f10 := ⟨Tryd.f111.name, by decide, Tryd.func111.trans (congrArg some (by kernel_rfl))⟩
  t0 := Tryd.underlying0
  a0 := Tryd.isAgg0
  z0 := Tryd.sizeOf0
  v0 := Tryd.zeroValue0
  t4 := Tryd.underlying4
  a4 := Tryd.isAgg4
  z4 := Tryd.sizeOf4
  v4 := Tryd.zeroValue4
  t23 := Tryd.underlying105
  a23 := Tryd.isAgg105
  z23 := Tryd.sizeOf105
  v23 := Tryd.zeroValue105
  t26 := Tryd.underlying9
  a26 := Tryd.isAgg9
  z26 := Tryd.sizeOf9
  v26 := Tryd.zeroValue9
  t33 := Tryd.underlying78
  a33 := Tryd.isAgg78
  z33 := Tryd.sizeOf78
  v33 := Tryd.zeroValue78 }
end Go.Proofs
