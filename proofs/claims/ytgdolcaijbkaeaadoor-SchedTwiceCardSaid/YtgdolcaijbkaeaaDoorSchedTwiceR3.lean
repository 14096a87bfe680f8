/- SchedTwice, in plain words: rows; each is reckoned. By this session. -/
import Derived.Test.YtgdolcaijbkaeaaDoorCSchedTwiceR
import Derived.Test.YtgdolcaijbkaeaaDoorCmPl
import Derived.KernelRfl
namespace Go.Proofs.YtgdolcaijbkaeaaDoor.Pure
open Go Go.Proofs.YtgdolcaijbkaeaaDoor.Cm
set_option maxRecDepth 100000
theorem e19_3 : (List.range 21).all (fun b => yes (law18_SchedTwice 101 (((19 : Int), (3 : Int), (b : Int), ()), ()))) = true := by kernel_rfl
theorem e19_8 : (List.range 21).all (fun b => yes (law18_SchedTwice 101 (((19 : Int), (8 : Int), (b : Int), ()), ()))) = true := by kernel_rfl
theorem e19_13 : (List.range 21).all (fun b => yes (law18_SchedTwice 101 (((19 : Int), (13 : Int), (b : Int), ()), ()))) = true := by kernel_rfl
theorem e19_18 : (List.range 21).all (fun b => yes (law18_SchedTwice 101 (((19 : Int), (18 : Int), (b : Int), ()), ()))) = true := by kernel_rfl
theorem e18_2 : (List.range 20).all (fun b => yes (law18_SchedTwice 101 (((18 : Int), (2 : Int), (b : Int), ()), ()))) = true := by kernel_rfl
theorem e18_6 : (List.range 20).all (fun b => yes (law18_SchedTwice 101 (((18 : Int), (6 : Int), (b : Int), ()), ()))) = true := by kernel_rfl
theorem e18_11 : (List.range 20).all (fun b => yes (law18_SchedTwice 101 (((18 : Int), (11 : Int), (b : Int), ()), ()))) = true := by kernel_rfl
theorem e18_16 : (List.range 20).all (fun b => yes (law18_SchedTwice 101 (((18 : Int), (16 : Int), (b : Int), ()), ()))) = true := by kernel_rfl
theorem e17_1 : (List.range 19).all (fun b => yes (law18_SchedTwice 101 (((17 : Int), (1 : Int), (b : Int), ()), ()))) = true := by kernel_rfl
theorem e17_5 : (List.range 19).all (fun b => yes (law18_SchedTwice 101 (((17 : Int), (5 : Int), (b : Int), ()), ()))) = true := by kernel_rfl
theorem e17_10 : (List.range 19).all (fun b => yes (law18_SchedTwice 101 (((17 : Int), (10 : Int), (b : Int), ()), ()))) = true := by kernel_rfl
theorem e17_15 : (List.range 19).all (fun b => yes (law18_SchedTwice 101 (((17 : Int), (15 : Int), (b : Int), ()), ()))) = true := by kernel_rfl
theorem e16_1 : (List.range 18).all (fun b => yes (law18_SchedTwice 101 (((16 : Int), (1 : Int), (b : Int), ()), ()))) = true := by kernel_rfl
theorem e16_6 : (List.range 18).all (fun b => yes (law18_SchedTwice 101 (((16 : Int), (6 : Int), (b : Int), ()), ()))) = true := by kernel_rfl
theorem e16_11 : (List.range 18).all (fun b => yes (law18_SchedTwice 101 (((16 : Int), (11 : Int), (b : Int), ()), ()))) = true := by kernel_rfl
theorem e16_16 : (List.range 18).all (fun b => yes (law18_SchedTwice 101 (((16 : Int), (16 : Int), (b : Int), ()), ()))) = true := by kernel_rfl
theorem e15_3 : (List.range 17).all (fun b => yes (law18_SchedTwice 101 (((15 : Int), (3 : Int), (b : Int), ()), ()))) = true := by kernel_rfl
theorem e15_8 : (List.range 17).all (fun b => yes (law18_SchedTwice 101 (((15 : Int), (8 : Int), (b : Int), ()), ()))) = true := by kernel_rfl
theorem e15_13 : (List.range 17).all (fun b => yes (law18_SchedTwice 101 (((15 : Int), (13 : Int), (b : Int), ()), ()))) = true := by kernel_rfl
theorem e14_1 : (List.range 16).all (fun b => yes (law18_SchedTwice 101 (((14 : Int), (1 : Int), (b : Int), ()), ()))) = true := by kernel_rfl
theorem e14_6 : (List.range 16).all (fun b => yes (law18_SchedTwice 101 (((14 : Int), (6 : Int), (b : Int), ()), ()))) = true := by kernel_rfl
theorem e14_11 : (List.range 16).all (fun b => yes (law18_SchedTwice 101 (((14 : Int), (11 : Int), (b : Int), ()), ()))) = true := by kernel_rfl
theorem e13_0 : (List.range 15).all (fun b => yes (law18_SchedTwice 101 (((13 : Int), (0 : Int), (b : Int), ()), ()))) = true := by kernel_rfl
theorem e13_4 : (List.range 15).all (fun b => yes (law18_SchedTwice 101 (((13 : Int), (4 : Int), (b : Int), ()), ()))) = true := by kernel_rfl
theorem e13_9 : (List.range 15).all (fun b => yes (law18_SchedTwice 101 (((13 : Int), (9 : Int), (b : Int), ()), ()))) = true := by kernel_rfl
theorem e13_14 : (List.range 15).all (fun b => yes (law18_SchedTwice 101 (((13 : Int), (14 : Int), (b : Int), ()), ()))) = true := by kernel_rfl
theorem e12_7 : (List.range 14).all (fun b => yes (law18_SchedTwice 101 (((12 : Int), (7 : Int), (b : Int), ()), ()))) = true := by kernel_rfl
theorem e12_12 : (List.range 14).all (fun b => yes (law18_SchedTwice 101 (((12 : Int), (12 : Int), (b : Int), ()), ()))) = true := by kernel_rfl
theorem e11_3 : (List.range 13).all (fun b => yes (law18_SchedTwice 101 (((11 : Int), (3 : Int), (b : Int), ()), ()))) = true := by kernel_rfl
theorem e11_8 : (List.range 13).all (fun b => yes (law18_SchedTwice 101 (((11 : Int), (8 : Int), (b : Int), ()), ()))) = true := by kernel_rfl
theorem e10_0 : (List.range 12).all (fun b => yes (law18_SchedTwice 101 (((10 : Int), (0 : Int), (b : Int), ()), ()))) = true := by kernel_rfl
theorem e10_4 : (List.range 12).all (fun b => yes (law18_SchedTwice 101 (((10 : Int), (4 : Int), (b : Int), ()), ()))) = true := by kernel_rfl
theorem e10_9 : (List.range 12).all (fun b => yes (law18_SchedTwice 101 (((10 : Int), (9 : Int), (b : Int), ()), ()))) = true := by kernel_rfl
theorem e9_2 : (List.range 11).all (fun b => yes (law18_SchedTwice 101 (((9 : Int), (2 : Int), (b : Int), ()), ()))) = true := by kernel_rfl
theorem e9_7 : (List.range 11).all (fun b => yes (law18_SchedTwice 101 (((9 : Int), (7 : Int), (b : Int), ()), ()))) = true := by kernel_rfl
theorem e8_1 : (List.range 10).all (fun b => yes (law18_SchedTwice 101 (((8 : Int), (1 : Int), (b : Int), ()), ()))) = true := by kernel_rfl
theorem e8_5 : (List.range 10).all (fun b => yes (law18_SchedTwice 101 (((8 : Int), (5 : Int), (b : Int), ()), ()))) = true := by kernel_rfl
theorem e7_0 : (List.range 9).all (fun b => yes (law18_SchedTwice 101 (((7 : Int), (0 : Int), (b : Int), ()), ()))) = true := by kernel_rfl
theorem e7_4 : (List.range 9).all (fun b => yes (law18_SchedTwice 101 (((7 : Int), (4 : Int), (b : Int), ()), ()))) = true := by kernel_rfl
theorem e6_0 : (List.range 8).all (fun b => yes (law18_SchedTwice 101 (((6 : Int), (0 : Int), (b : Int), ()), ()))) = true := by kernel_rfl
theorem e6_5 : (List.range 8).all (fun b => yes (law18_SchedTwice 101 (((6 : Int), (5 : Int), (b : Int), ()), ()))) = true := by kernel_rfl
theorem e5_2 : (List.range 7).all (fun b => yes (law18_SchedTwice 101 (((5 : Int), (2 : Int), (b : Int), ()), ()))) = true := by kernel_rfl
theorem e4_0 : (List.range 6).all (fun b => yes (law18_SchedTwice 101 (((4 : Int), (0 : Int), (b : Int), ()), ()))) = true := by kernel_rfl
theorem e4_5 : (List.range 6).all (fun b => yes (law18_SchedTwice 101 (((4 : Int), (5 : Int), (b : Int), ()), ()))) = true := by kernel_rfl
theorem e2_3 : (List.range 4).all (fun b => yes (law18_SchedTwice 101 (((2 : Int), (3 : Int), (b : Int), ()), ()))) = true := by kernel_rfl
theorem e0_1 : (List.range 2).all (fun b => yes (law18_SchedTwice 101 (((0 : Int), (1 : Int), (b : Int), ()), ()))) = true := by kernel_rfl
end Go.Proofs.YtgdolcaijbkaeaaDoor.Pure
