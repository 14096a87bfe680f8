/- LayTowers, in plain words: rows; each is reckoned. By this session. -/
import Derived.Test.YtkoeofaeigchpaaDoorCLayTowersR
import Derived.Test.YtkoeofaeigchpaaDoorCmPl
import Derived.KernelRfl
namespace Go.Proofs.YtkoeofaeigchpaaDoor.Pure
open Go Go.Proofs.YtkoeofaeigchpaaDoor.Cm
set_option maxRecDepth 100000
theorem r00 : (List.range 6).all (fun c => yes (law20_LayTowers 101 (((0 : Int), (0 : Int), (c : Int), ()), ()))) = true := by kernel_rfl
theorem r01 : (List.range 6).all (fun c => yes (law20_LayTowers 101 (((0 : Int), (1 : Int), (c : Int), ()), ()))) = true := by kernel_rfl
theorem r02 : (List.range 6).all (fun c => yes (law20_LayTowers 101 (((0 : Int), (2 : Int), (c : Int), ()), ()))) = true := by kernel_rfl
theorem r03 : (List.range 6).all (fun c => yes (law20_LayTowers 101 (((0 : Int), (3 : Int), (c : Int), ()), ()))) = true := by kernel_rfl
theorem r10 : (List.range 6).all (fun c => yes (law20_LayTowers 101 (((1 : Int), (0 : Int), (c : Int), ()), ()))) = true := by kernel_rfl
theorem r11 : (List.range 6).all (fun c => yes (law20_LayTowers 101 (((1 : Int), (1 : Int), (c : Int), ()), ()))) = true := by kernel_rfl
theorem r12 : (List.range 6).all (fun c => yes (law20_LayTowers 101 (((1 : Int), (2 : Int), (c : Int), ()), ()))) = true := by kernel_rfl
theorem r13 : (List.range 6).all (fun c => yes (law20_LayTowers 101 (((1 : Int), (3 : Int), (c : Int), ()), ()))) = true := by kernel_rfl
theorem r20 : (List.range 6).all (fun c => yes (law20_LayTowers 101 (((2 : Int), (0 : Int), (c : Int), ()), ()))) = true := by kernel_rfl
theorem r21 : (List.range 6).all (fun c => yes (law20_LayTowers 101 (((2 : Int), (1 : Int), (c : Int), ()), ()))) = true := by kernel_rfl
theorem r22 : (List.range 6).all (fun c => yes (law20_LayTowers 101 (((2 : Int), (2 : Int), (c : Int), ()), ()))) = true := by kernel_rfl
theorem r23 : (List.range 6).all (fun c => yes (law20_LayTowers 101 (((2 : Int), (3 : Int), (c : Int), ()), ()))) = true := by kernel_rfl
theorem r30 : (List.range 6).all (fun c => yes (law20_LayTowers 101 (((3 : Int), (0 : Int), (c : Int), ()), ()))) = true := by kernel_rfl
theorem r31 : (List.range 6).all (fun c => yes (law20_LayTowers 101 (((3 : Int), (1 : Int), (c : Int), ()), ()))) = true := by kernel_rfl
theorem r32 : (List.range 6).all (fun c => yes (law20_LayTowers 101 (((3 : Int), (2 : Int), (c : Int), ()), ()))) = true := by kernel_rfl
theorem r33 : (List.range 6).all (fun c => yes (law20_LayTowers 101 (((3 : Int), (3 : Int), (c : Int), ()), ()))) = true := by kernel_rfl
theorem r40 : (List.range 6).all (fun c => yes (law20_LayTowers 101 (((4 : Int), (0 : Int), (c : Int), ()), ()))) = true := by kernel_rfl
theorem r41 : (List.range 6).all (fun c => yes (law20_LayTowers 101 (((4 : Int), (1 : Int), (c : Int), ()), ()))) = true := by kernel_rfl
theorem r42 : (List.range 6).all (fun c => yes (law20_LayTowers 101 (((4 : Int), (2 : Int), (c : Int), ()), ()))) = true := by kernel_rfl
theorem r50 : (List.range 6).all (fun c => yes (law20_LayTowers 101 (((5 : Int), (0 : Int), (c : Int), ()), ()))) = true := by kernel_rfl
theorem r51 : (List.range 6).all (fun c => yes (law20_LayTowers 101 (((5 : Int), (1 : Int), (c : Int), ()), ()))) = true := by kernel_rfl
theorem r52 : (List.range 6).all (fun c => yes (law20_LayTowers 101 (((5 : Int), (2 : Int), (c : Int), ()), ()))) = true := by kernel_rfl
theorem r60 : (List.range 6).all (fun c => yes (law20_LayTowers 101 (((6 : Int), (0 : Int), (c : Int), ()), ()))) = true := by kernel_rfl
theorem r61 : (List.range 6).all (fun c => yes (law20_LayTowers 101 (((6 : Int), (1 : Int), (c : Int), ()), ()))) = true := by kernel_rfl
theorem r70 : (List.range 6).all (fun c => yes (law20_LayTowers 101 (((7 : Int), (0 : Int), (c : Int), ()), ()))) = true := by kernel_rfl
theorem r71 : (List.range 6).all (fun c => yes (law20_LayTowers 101 (((7 : Int), (1 : Int), (c : Int), ()), ()))) = true := by kernel_rfl
theorem r80 : (List.range 6).all (fun c => yes (law20_LayTowers 101 (((8 : Int), (0 : Int), (c : Int), ()), ()))) = true := by kernel_rfl
theorem r81 : (List.range 6).all (fun c => yes (law20_LayTowers 101 (((8 : Int), (1 : Int), (c : Int), ()), ()))) = true := by kernel_rfl
theorem r82 : (List.range 6).all (fun c => yes (law20_LayTowers 101 (((8 : Int), (2 : Int), (c : Int), ()), ()))) = true := by kernel_rfl
theorem r83 : (List.range 6).all (fun c => yes (law20_LayTowers 101 (((8 : Int), (3 : Int), (c : Int), ()), ()))) = true := by kernel_rfl
theorem r90 : (List.range 6).all (fun c => yes (law20_LayTowers 101 (((9 : Int), (0 : Int), (c : Int), ()), ()))) = true := by kernel_rfl
theorem r91 : (List.range 6).all (fun c => yes (law20_LayTowers 101 (((9 : Int), (1 : Int), (c : Int), ()), ()))) = true := by kernel_rfl
theorem r92 : (List.range 6).all (fun c => yes (law20_LayTowers 101 (((9 : Int), (2 : Int), (c : Int), ()), ()))) = true := by kernel_rfl
theorem r93 : (List.range 6).all (fun c => yes (law20_LayTowers 101 (((9 : Int), (3 : Int), (c : Int), ()), ()))) = true := by kernel_rfl
end Go.Proofs.YtkoeofaeigchpaaDoor.Pure
