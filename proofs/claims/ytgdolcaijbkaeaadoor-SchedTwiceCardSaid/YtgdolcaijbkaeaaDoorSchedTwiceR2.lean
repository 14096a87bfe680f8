/- SchedTwice, in plain words: rows; each is reckoned. By this session. -/
import Derived.Test.YtgdolcaijbkaeaaDoorCSchedTwiceR
import Derived.Test.YtgdolcaijbkaeaaDoorCmPl
import Derived.KernelRfl
namespace Go.Proofs.YtgdolcaijbkaeaaDoor.Pure
open Go Go.Proofs.YtgdolcaijbkaeaaDoor.Cm
set_option maxRecDepth 100000
theorem e19_2 : (List.range 21).all (fun b => yes (law18_SchedTwice 101 (((19 : Int), (2 : Int), (b : Int), ()), ()))) = true := by kernel_rfl
theorem e19_7 : (List.range 21).all (fun b => yes (law18_SchedTwice 101 (((19 : Int), (7 : Int), (b : Int), ()), ()))) = true := by kernel_rfl
theorem e19_12 : (List.range 21).all (fun b => yes (law18_SchedTwice 101 (((19 : Int), (12 : Int), (b : Int), ()), ()))) = true := by kernel_rfl
theorem e19_17 : (List.range 21).all (fun b => yes (law18_SchedTwice 101 (((19 : Int), (17 : Int), (b : Int), ()), ()))) = true := by kernel_rfl
theorem e18_1 : (List.range 20).all (fun b => yes (law18_SchedTwice 101 (((18 : Int), (1 : Int), (b : Int), ()), ()))) = true := by kernel_rfl
theorem e18_5 : (List.range 20).all (fun b => yes (law18_SchedTwice 101 (((18 : Int), (5 : Int), (b : Int), ()), ()))) = true := by kernel_rfl
theorem e18_10 : (List.range 20).all (fun b => yes (law18_SchedTwice 101 (((18 : Int), (10 : Int), (b : Int), ()), ()))) = true := by kernel_rfl
theorem e18_15 : (List.range 20).all (fun b => yes (law18_SchedTwice 101 (((18 : Int), (15 : Int), (b : Int), ()), ()))) = true := by kernel_rfl
theorem e17_0 : (List.range 19).all (fun b => yes (law18_SchedTwice 101 (((17 : Int), (0 : Int), (b : Int), ()), ()))) = true := by kernel_rfl
theorem e17_4 : (List.range 19).all (fun b => yes (law18_SchedTwice 101 (((17 : Int), (4 : Int), (b : Int), ()), ()))) = true := by kernel_rfl
theorem e17_9 : (List.range 19).all (fun b => yes (law18_SchedTwice 101 (((17 : Int), (9 : Int), (b : Int), ()), ()))) = true := by kernel_rfl
theorem e17_14 : (List.range 19).all (fun b => yes (law18_SchedTwice 101 (((17 : Int), (14 : Int), (b : Int), ()), ()))) = true := by kernel_rfl
theorem e16_0 : (List.range 18).all (fun b => yes (law18_SchedTwice 101 (((16 : Int), (0 : Int), (b : Int), ()), ()))) = true := by kernel_rfl
theorem e16_5 : (List.range 18).all (fun b => yes (law18_SchedTwice 101 (((16 : Int), (5 : Int), (b : Int), ()), ()))) = true := by kernel_rfl
theorem e16_10 : (List.range 18).all (fun b => yes (law18_SchedTwice 101 (((16 : Int), (10 : Int), (b : Int), ()), ()))) = true := by kernel_rfl
theorem e16_15 : (List.range 18).all (fun b => yes (law18_SchedTwice 101 (((16 : Int), (15 : Int), (b : Int), ()), ()))) = true := by kernel_rfl
theorem e15_2 : (List.range 17).all (fun b => yes (law18_SchedTwice 101 (((15 : Int), (2 : Int), (b : Int), ()), ()))) = true := by kernel_rfl
theorem e15_7 : (List.range 17).all (fun b => yes (law18_SchedTwice 101 (((15 : Int), (7 : Int), (b : Int), ()), ()))) = true := by kernel_rfl
theorem e15_12 : (List.range 17).all (fun b => yes (law18_SchedTwice 101 (((15 : Int), (12 : Int), (b : Int), ()), ()))) = true := by kernel_rfl
theorem e14_0 : (List.range 16).all (fun b => yes (law18_SchedTwice 101 (((14 : Int), (0 : Int), (b : Int), ()), ()))) = true := by kernel_rfl
theorem e14_5 : (List.range 16).all (fun b => yes (law18_SchedTwice 101 (((14 : Int), (5 : Int), (b : Int), ()), ()))) = true := by kernel_rfl
theorem e14_10 : (List.range 16).all (fun b => yes (law18_SchedTwice 101 (((14 : Int), (10 : Int), (b : Int), ()), ()))) = true := by kernel_rfl
theorem e14_15 : (List.range 16).all (fun b => yes (law18_SchedTwice 101 (((14 : Int), (15 : Int), (b : Int), ()), ()))) = true := by kernel_rfl
theorem e13_8 : (List.range 15).all (fun b => yes (law18_SchedTwice 101 (((13 : Int), (8 : Int), (b : Int), ()), ()))) = true := by kernel_rfl
theorem e13_13 : (List.range 15).all (fun b => yes (law18_SchedTwice 101 (((13 : Int), (13 : Int), (b : Int), ()), ()))) = true := by kernel_rfl
theorem e12_3 : (List.range 14).all (fun b => yes (law18_SchedTwice 101 (((12 : Int), (3 : Int), (b : Int), ()), ()))) = true := by kernel_rfl
theorem e12_8 : (List.range 14).all (fun b => yes (law18_SchedTwice 101 (((12 : Int), (8 : Int), (b : Int), ()), ()))) = true := by kernel_rfl
theorem e12_13 : (List.range 14).all (fun b => yes (law18_SchedTwice 101 (((12 : Int), (13 : Int), (b : Int), ()), ()))) = true := by kernel_rfl
theorem e11_4 : (List.range 13).all (fun b => yes (law18_SchedTwice 101 (((11 : Int), (4 : Int), (b : Int), ()), ()))) = true := by kernel_rfl
theorem e11_9 : (List.range 13).all (fun b => yes (law18_SchedTwice 101 (((11 : Int), (9 : Int), (b : Int), ()), ()))) = true := by kernel_rfl
theorem e10_1 : (List.range 12).all (fun b => yes (law18_SchedTwice 101 (((10 : Int), (1 : Int), (b : Int), ()), ()))) = true := by kernel_rfl
theorem e10_6 : (List.range 12).all (fun b => yes (law18_SchedTwice 101 (((10 : Int), (6 : Int), (b : Int), ()), ()))) = true := by kernel_rfl
theorem e10_11 : (List.range 12).all (fun b => yes (law18_SchedTwice 101 (((10 : Int), (11 : Int), (b : Int), ()), ()))) = true := by kernel_rfl
theorem e9_4 : (List.range 11).all (fun b => yes (law18_SchedTwice 101 (((9 : Int), (4 : Int), (b : Int), ()), ()))) = true := by kernel_rfl
theorem e9_9 : (List.range 11).all (fun b => yes (law18_SchedTwice 101 (((9 : Int), (9 : Int), (b : Int), ()), ()))) = true := by kernel_rfl
theorem e8_3 : (List.range 10).all (fun b => yes (law18_SchedTwice 101 (((8 : Int), (3 : Int), (b : Int), ()), ()))) = true := by kernel_rfl
theorem e8_7 : (List.range 10).all (fun b => yes (law18_SchedTwice 101 (((8 : Int), (7 : Int), (b : Int), ()), ()))) = true := by kernel_rfl
theorem e7_2 : (List.range 9).all (fun b => yes (law18_SchedTwice 101 (((7 : Int), (2 : Int), (b : Int), ()), ()))) = true := by kernel_rfl
theorem e7_6 : (List.range 9).all (fun b => yes (law18_SchedTwice 101 (((7 : Int), (6 : Int), (b : Int), ()), ()))) = true := by kernel_rfl
theorem e6_2 : (List.range 8).all (fun b => yes (law18_SchedTwice 101 (((6 : Int), (2 : Int), (b : Int), ()), ()))) = true := by kernel_rfl
theorem e6_7 : (List.range 8).all (fun b => yes (law18_SchedTwice 101 (((6 : Int), (7 : Int), (b : Int), ()), ()))) = true := by kernel_rfl
theorem e5_4 : (List.range 7).all (fun b => yes (law18_SchedTwice 101 (((5 : Int), (4 : Int), (b : Int), ()), ()))) = true := by kernel_rfl
theorem e4_2 : (List.range 6).all (fun b => yes (law18_SchedTwice 101 (((4 : Int), (2 : Int), (b : Int), ()), ()))) = true := by kernel_rfl
theorem e3_1 : (List.range 5).all (fun b => yes (law18_SchedTwice 101 (((3 : Int), (1 : Int), (b : Int), ()), ()))) = true := by kernel_rfl
theorem e2_0 : (List.range 4).all (fun b => yes (law18_SchedTwice 101 (((2 : Int), (0 : Int), (b : Int), ()), ()))) = true := by kernel_rfl
theorem e1_0 : (List.range 3).all (fun b => yes (law18_SchedTwice 101 (((1 : Int), (0 : Int), (b : Int), ()), ()))) = true := by kernel_rfl
end Go.Proofs.YtgdolcaijbkaeaaDoor.Pure
