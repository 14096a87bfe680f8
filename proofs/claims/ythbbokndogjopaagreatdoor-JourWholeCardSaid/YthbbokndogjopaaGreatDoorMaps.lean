/-
  DERIVED: THE SHELF's CONTRACTS AT THIS DUMP, IN PLAIN WORDS (tools/lay-plain.mjs out of 'TryzMaps.lean', which tools/lay-shelf.mjs wrote): THE SAME DECLARATIONS UNDER THE SAME NAMES: 'import', 'namespace', 'open', 'def', 'theorem' AND NOTHING ELSE: no command of the shelf's: FOR A HAND-IN. Each laying: the table of numbers ('.._ren') and one theorem, a field a fact of the dump's own or the kernel's comparison; each contract: ONE APPLICATION.
-/
import Derived.Shelf.SlIter.Sorted
import Derived.Shelf.SlIterI.Sorted
import Derived.Shelf.SlMaps.Clone
import Derived.Shelf.SlMaps.Copy
import Derived.Shelf.SlMaps.Equal
import Derived.Test.YthbbokndogjopaaGreatDoorProg
namespace Go.Proofs
open Go.Shelf
def Tryz.layMcopyint0_ren : Go.Shelf.Ren := ⟨fun | 5 => 66 | n => n, fun | 23 => 59 | 24 => 59 | 26 => 3 | 27 => 69 | 0 => 0 | 4 => 4 | n => n, fun | n => n⟩
theorem Tryz.layMcopyint0 : Go.Proofs.SlLaysX.n5 Tryz.prog Tryz.layMcopyint0_ren := {
  mixed := by kernel_rfl
  f5 := ⟨Tryz.f66.name, by decide, Tryz.func66.trans (congrArg some (by kernel_rfl))⟩
  t0 := Tryz.underlying0
  a0 := Tryz.isAgg0
  z0 := Tryz.sizeOf0
  v0 := Tryz.zeroValue0
  t4 := Tryz.underlying4
  a4 := Tryz.isAgg4
  z4 := Tryz.sizeOf4
  v4 := Tryz.zeroValue4
  t23 := Tryz.underlying59
  a23 := Tryz.isAgg59
  z23 := Tryz.sizeOf59
  v23 := Tryz.zeroValue59
  t24 := Tryz.underlying59
  a24 := Tryz.isAgg59
  z24 := Tryz.sizeOf59
  v24 := Tryz.zeroValue59
  a26 := Tryz.isAgg3
  z26 := Tryz.sizeOf3
  a27 := Tryz.isAgg69
  z27 := Tryz.sizeOf69 }
def Tryz.laySortedint_ren : Go.Shelf.Ren := ⟨fun | 6 => 34 | 8 => 51 | 9 => 52 | 11 => 71 | 13 => 73 | 12 => 72 | 23 => 95 | 24 => 96 | 14 => 86 | 15 => 87 | 16 => 88 | 17 => 89 | 18 => 90 | 19 => 91 | 20 => 92 | 21 => 93 | 22 => 94 | 25 => 110 | 26 => 111 | 27 => 112 | 28 => 113 | 29 => 114 | 30 => 115 | 31 => 124 | n => n, fun | 26 => 3 | 28 => 85 | 24 => 23 | 0 => 0 | 3 => 3 | 37 => 130 | 48 => 154 | 50 => 141 | 4 => 4 | 40 => 146 | 39 => 145 | 45 => 151 | 5 => 5 | 9 => 9 | 51 => 176 | 55 => 180 | 57 => 188 | 58 => 71 | 33 => 107 | n => n, fun | n => n⟩
theorem Tryz.laySortedint : Go.Proofs.SlLaysZI.n6 Tryz.prog Tryz.laySortedint_ren := {
  mixed := by kernel_rfl
  f6 := ⟨Tryz.f34.name, by decide, Tryz.func34.trans (congrArg some (by kernel_rfl))⟩
  f8 := ⟨Tryz.f51.name, by decide, Tryz.func51.trans (congrArg some (by kernel_rfl))⟩
  f11 := ⟨Tryz.f71.name, by decide, Tryz.func71.trans (congrArg some (by kernel_rfl))⟩
  t0 := Tryz.underlying0
  a0 := Tryz.isAgg0
  z0 := Tryz.sizeOf0
  v0 := Tryz.zeroValue0
  t24 := Tryz.underlying23
  a24 := Tryz.isAgg23
  z24 := Tryz.sizeOf23
  v24 := Tryz.zeroValue23
  t26 := Tryz.underlying3
  a26 := Tryz.isAgg3
  z26 := Tryz.sizeOf3
  v26 := Tryz.zeroValue3
  t28 := Tryz.underlying85
  a28 := Tryz.isAgg85
  z28 := Tryz.sizeOf85
  v28 := Tryz.zeroValue85
  i26 := by kernel_rfl }
def Tryz.layKeysint0_ren : Go.Shelf.Ren := ⟨fun | 10 => 53 | n => n, fun | 33 => 107 | 23 => 59 | 0 => 0 | 4 => 4 | 26 => 3 | 3 => 69 | n => n, fun | n => n⟩
theorem Tryz.layKeysint0 : Go.Proofs.SlLaysZI.n10 Tryz.prog Tryz.layKeysint0_ren := {
  mixed := by kernel_rfl
  f10 := ⟨Tryz.f53.name, by decide, Tryz.func53.trans (congrArg some (by kernel_rfl))⟩
  t0 := Tryz.underlying0
  a0 := Tryz.isAgg0
  z0 := Tryz.sizeOf0
  v0 := Tryz.zeroValue0
  t4 := Tryz.underlying4
  a4 := Tryz.isAgg4
  z4 := Tryz.sizeOf4
  v4 := Tryz.zeroValue4
  t23 := Tryz.underlying59
  a23 := Tryz.isAgg59
  z23 := Tryz.sizeOf59
  v23 := Tryz.zeroValue59
  t26 := Tryz.underlying3
  a26 := Tryz.isAgg3
  z26 := Tryz.sizeOf3
  v26 := Tryz.zeroValue3
  t33 := Tryz.underlying107
  a33 := Tryz.isAgg107
  z33 := Tryz.sizeOf107
  v33 := Tryz.zeroValue107 }
def Tryz.layMclonestring0_ren : Go.Shelf.Ren := ⟨fun | 5 => 33 | 7 => 50 | n => n, fun | 23 => 63 | 25 => 9 | 3 => 9 | 4 => 4 | 20 => 20 | n => n, fun | n => n⟩
theorem Tryz.layMclonestring0 : Go.Proofs.SlLaysW.n5 Tryz.prog Tryz.layMclonestring0_ren := {
  mixed := by kernel_rfl
  f5 := ⟨Tryz.f33.name, by decide, Tryz.func33.trans (congrArg some (by kernel_rfl))⟩
  f7 := Tryz.func50.trans (congrArg some (by kernel_rfl))
  t4 := Tryz.underlying4
  a4 := Tryz.isAgg4
  z4 := Tryz.sizeOf4
  v4 := Tryz.zeroValue4
  t20 := Tryz.underlying20
  a20 := Tryz.isAgg20
  z20 := Tryz.sizeOf20
  v20 := Tryz.zeroValue20
  t23 := Tryz.underlying63
  a23 := Tryz.isAgg63
  z23 := Tryz.sizeOf63
  v23 := Tryz.zeroValue63 }
def Tryz.laySortedstring_ren : Go.Shelf.Ren := ⟨fun | 6 => 40 | 8 => 60 | 9 => 61 | 11 => 82 | 13 => 73 | 12 => 83 | 23 => 95 | 24 => 96 | 14 => 101 | 15 => 102 | 16 => 103 | 17 => 104 | 18 => 105 | 19 => 106 | 20 => 107 | 21 => 108 | 22 => 109 | 25 => 120 | 26 => 111 | 27 => 112 | 28 => 121 | 29 => 122 | 30 => 123 | 31 => 129 | n => n, fun | 26 => 9 | 28 => 97 | 24 => 49 | 0 => 0 | 3 => 3 | 37 => 130 | 48 => 154 | 50 => 141 | 4 => 4 | 40 => 146 | 39 => 145 | 45 => 151 | 5 => 5 | 9 => 9 | 51 => 176 | 55 => 180 | 57 => 188 | 58 => 71 | 33 => 116 | n => n, fun | n => n⟩
theorem Tryz.laySortedstring : Go.Proofs.SlLaysZ.n6 Tryz.prog Tryz.laySortedstring_ren := {
  mixed := by kernel_rfl
  f6 := ⟨Tryz.f40.name, by decide, Tryz.func40.trans (congrArg some (by kernel_rfl))⟩
  f8 := ⟨Tryz.f60.name, by decide, Tryz.func60.trans (congrArg some (by kernel_rfl))⟩
  f11 := ⟨Tryz.f82.name, by decide, Tryz.func82.trans (congrArg some (by kernel_rfl))⟩
  t0 := Tryz.underlying0
  a0 := Tryz.isAgg0
  z0 := Tryz.sizeOf0
  v0 := Tryz.zeroValue0
  t24 := Tryz.underlying49
  a24 := Tryz.isAgg49
  z24 := Tryz.sizeOf49
  v24 := Tryz.zeroValue49
  t26 := Tryz.underlying9
  a26 := Tryz.isAgg9
  z26 := Tryz.sizeOf9
  v26 := Tryz.zeroValue9
  t28 := Tryz.underlying97
  a28 := Tryz.isAgg97
  z28 := Tryz.sizeOf97
  v28 := Tryz.zeroValue97
  i26 := by kernel_rfl }
def Tryz.layKeysstring0_ren : Go.Shelf.Ren := ⟨fun | 10 => 62 | n => n, fun | 33 => 116 | 23 => 63 | 0 => 0 | 4 => 4 | 26 => 9 | 3 => 9 | n => n, fun | n => n⟩
theorem Tryz.layKeysstring0 : Go.Proofs.SlLaysZ.n10 Tryz.prog Tryz.layKeysstring0_ren := {
  mixed := by kernel_rfl
  f10 := ⟨Tryz.f62.name, by decide, Tryz.func62.trans (congrArg some (by kernel_rfl))⟩
  t0 := Tryz.underlying0
  a0 := Tryz.isAgg0
  z0 := Tryz.sizeOf0
  v0 := Tryz.zeroValue0
  t4 := Tryz.underlying4
  a4 := Tryz.isAgg4
  z4 := Tryz.sizeOf4
  v4 := Tryz.zeroValue4
  t23 := Tryz.underlying63
  a23 := Tryz.isAgg63
  z23 := Tryz.sizeOf63
  v23 := Tryz.zeroValue63
  t26 := Tryz.underlying9
  a26 := Tryz.isAgg9
  z26 := Tryz.sizeOf9
  v26 := Tryz.zeroValue9
  t33 := Tryz.underlying116
  a33 := Tryz.isAgg116
  z33 := Tryz.sizeOf116
  v33 := Tryz.zeroValue116 }
def Tryz.layMequal0_ren : Go.Shelf.Ren := ⟨fun | 6 => 25 | n => n, fun | 23 => 63 | 24 => 63 | 26 => 9 | 27 => 9 | 4 => 4 | 3 => 3 | 0 => 0 | 36 => 51 | n => n, fun | n => n⟩
theorem Tryz.layMequal0 : Go.Proofs.SlLaysEq.n6 Tryz.prog Tryz.layMequal0_ren := {
  mixed := by kernel_rfl
  f6 := ⟨Tryz.f25.name, by decide, Tryz.func25.trans (congrArg some (by kernel_rfl))⟩
  t0 := Tryz.underlying0
  a0 := Tryz.isAgg0
  z0 := Tryz.sizeOf0
  v0 := Tryz.zeroValue0
  t3 := Tryz.underlying3
  a3 := Tryz.isAgg3
  z3 := Tryz.sizeOf3
  v3 := Tryz.zeroValue3
  t4 := Tryz.underlying4
  a4 := Tryz.isAgg4
  z4 := Tryz.sizeOf4
  v4 := Tryz.zeroValue4
  t23 := Tryz.underlying63
  a23 := Tryz.isAgg63
  z23 := Tryz.sizeOf63
  v23 := Tryz.zeroValue63
  t24 := Tryz.underlying63
  a24 := Tryz.isAgg63
  z24 := Tryz.sizeOf63
  v24 := Tryz.zeroValue63
  a26 := Tryz.isAgg9
  z26 := Tryz.sizeOf9
  a27 := Tryz.isAgg9
  z27 := Tryz.sizeOf9
  t36 := Tryz.underlying51
  a36 := Tryz.isAgg51
  z36 := Tryz.sizeOf51 }
end Go.Proofs
