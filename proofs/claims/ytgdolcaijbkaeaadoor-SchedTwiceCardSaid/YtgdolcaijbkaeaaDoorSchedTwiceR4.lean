/- SchedTwice, in plain words: rows; each is reckoned. By this session. -/
import Derived.Test.YtgdolcaijbkaeaaDoorCSchedTwiceR
import Derived.Test.YtgdolcaijbkaeaaDoorCmPl
import Derived.KernelRfl
namespace Go.Proofs.YtgdolcaijbkaeaaDoor.Pure
open Go Go.Proofs.YtgdolcaijbkaeaaDoor.Cm
set_option maxRecDepth 100000
theorem e19_4 : (List.range 21).all (fun b => yes (law18_SchedTwice 101 (((19 : Int), (4 : Int), (b : Int), ()), ()))) = true := by kernel_rfl
theorem e19_9 : (List.range 21).all (fun b => yes (law18_SchedTwice 101 (((19 : Int), (9 : Int), (b : Int), ()), ()))) = true := by kernel_rfl
theorem e19_14 : (List.range 21).all (fun b => yes (law18_SchedTwice 101 (((19 : Int), (14 : Int), (b : Int), ()), ()))) = true := by kernel_rfl
theorem e19_19 : (List.range 21).all (fun b => yes (law18_SchedTwice 101 (((19 : Int), (19 : Int), (b : Int), ()), ()))) = true := by kernel_rfl
theorem e18_3 : (List.range 20).all (fun b => yes (law18_SchedTwice 101 (((18 : Int), (3 : Int), (b : Int), ()), ()))) = true := by kernel_rfl
theorem e18_7 : (List.range 20).all (fun b => yes (law18_SchedTwice 101 (((18 : Int), (7 : Int), (b : Int), ()), ()))) = true := by kernel_rfl
theorem e18_12 : (List.range 20).all (fun b => yes (law18_SchedTwice 101 (((18 : Int), (12 : Int), (b : Int), ()), ()))) = true := by kernel_rfl
theorem e18_17 : (List.range 20).all (fun b => yes (law18_SchedTwice 101 (((18 : Int), (17 : Int), (b : Int), ()), ()))) = true := by kernel_rfl
theorem e17_2 : (List.range 19).all (fun b => yes (law18_SchedTwice 101 (((17 : Int), (2 : Int), (b : Int), ()), ()))) = true := by kernel_rfl
theorem e17_6 : (List.range 19).all (fun b => yes (law18_SchedTwice 101 (((17 : Int), (6 : Int), (b : Int), ()), ()))) = true := by kernel_rfl
theorem e17_11 : (List.range 19).all (fun b => yes (law18_SchedTwice 101 (((17 : Int), (11 : Int), (b : Int), ()), ()))) = true := by kernel_rfl
theorem e17_16 : (List.range 19).all (fun b => yes (law18_SchedTwice 101 (((17 : Int), (16 : Int), (b : Int), ()), ()))) = true := by kernel_rfl
theorem e16_2 : (List.range 18).all (fun b => yes (law18_SchedTwice 101 (((16 : Int), (2 : Int), (b : Int), ()), ()))) = true := by kernel_rfl
theorem e16_7 : (List.range 18).all (fun b => yes (law18_SchedTwice 101 (((16 : Int), (7 : Int), (b : Int), ()), ()))) = true := by kernel_rfl
theorem e16_12 : (List.range 18).all (fun b => yes (law18_SchedTwice 101 (((16 : Int), (12 : Int), (b : Int), ()), ()))) = true := by kernel_rfl
theorem e16_17 : (List.range 18).all (fun b => yes (law18_SchedTwice 101 (((16 : Int), (17 : Int), (b : Int), ()), ()))) = true := by kernel_rfl
theorem e15_4 : (List.range 17).all (fun b => yes (law18_SchedTwice 101 (((15 : Int), (4 : Int), (b : Int), ()), ()))) = true := by kernel_rfl
theorem e15_9 : (List.range 17).all (fun b => yes (law18_SchedTwice 101 (((15 : Int), (9 : Int), (b : Int), ()), ()))) = true := by kernel_rfl
theorem e15_14 : (List.range 17).all (fun b => yes (law18_SchedTwice 101 (((15 : Int), (14 : Int), (b : Int), ()), ()))) = true := by kernel_rfl
theorem e14_2 : (List.range 16).all (fun b => yes (law18_SchedTwice 101 (((14 : Int), (2 : Int), (b : Int), ()), ()))) = true := by kernel_rfl
theorem e14_7 : (List.range 16).all (fun b => yes (law18_SchedTwice 101 (((14 : Int), (7 : Int), (b : Int), ()), ()))) = true := by kernel_rfl
theorem e14_12 : (List.range 16).all (fun b => yes (law18_SchedTwice 101 (((14 : Int), (12 : Int), (b : Int), ()), ()))) = true := by kernel_rfl
theorem e13_1 : (List.range 15).all (fun b => yes (law18_SchedTwice 101 (((13 : Int), (1 : Int), (b : Int), ()), ()))) = true := by kernel_rfl
theorem e13_5 : (List.range 15).all (fun b => yes (law18_SchedTwice 101 (((13 : Int), (5 : Int), (b : Int), ()), ()))) = true := by kernel_rfl
theorem e13_10 : (List.range 15).all (fun b => yes (law18_SchedTwice 101 (((13 : Int), (10 : Int), (b : Int), ()), ()))) = true := by kernel_rfl
theorem e12_0 : (List.range 14).all (fun b => yes (law18_SchedTwice 101 (((12 : Int), (0 : Int), (b : Int), ()), ()))) = true := by kernel_rfl
theorem e12_4 : (List.range 14).all (fun b => yes (law18_SchedTwice 101 (((12 : Int), (4 : Int), (b : Int), ()), ()))) = true := by kernel_rfl
theorem e12_9 : (List.range 14).all (fun b => yes (law18_SchedTwice 101 (((12 : Int), (9 : Int), (b : Int), ()), ()))) = true := by kernel_rfl
theorem e11_0 : (List.range 13).all (fun b => yes (law18_SchedTwice 101 (((11 : Int), (0 : Int), (b : Int), ()), ()))) = true := by kernel_rfl
theorem e11_5 : (List.range 13).all (fun b => yes (law18_SchedTwice 101 (((11 : Int), (5 : Int), (b : Int), ()), ()))) = true := by kernel_rfl
theorem e11_10 : (List.range 13).all (fun b => yes (law18_SchedTwice 101 (((11 : Int), (10 : Int), (b : Int), ()), ()))) = true := by kernel_rfl
theorem e10_2 : (List.range 12).all (fun b => yes (law18_SchedTwice 101 (((10 : Int), (2 : Int), (b : Int), ()), ()))) = true := by kernel_rfl
theorem e10_7 : (List.range 12).all (fun b => yes (law18_SchedTwice 101 (((10 : Int), (7 : Int), (b : Int), ()), ()))) = true := by kernel_rfl
theorem e9_0 : (List.range 11).all (fun b => yes (law18_SchedTwice 101 (((9 : Int), (0 : Int), (b : Int), ()), ()))) = true := by kernel_rfl
theorem e9_5 : (List.range 11).all (fun b => yes (law18_SchedTwice 101 (((9 : Int), (5 : Int), (b : Int), ()), ()))) = true := by kernel_rfl
theorem e9_10 : (List.range 11).all (fun b => yes (law18_SchedTwice 101 (((9 : Int), (10 : Int), (b : Int), ()), ()))) = true := by kernel_rfl
theorem e8_8 : (List.range 10).all (fun b => yes (law18_SchedTwice 101 (((8 : Int), (8 : Int), (b : Int), ()), ()))) = true := by kernel_rfl
theorem e7_3 : (List.range 9).all (fun b => yes (law18_SchedTwice 101 (((7 : Int), (3 : Int), (b : Int), ()), ()))) = true := by kernel_rfl
theorem e7_7 : (List.range 9).all (fun b => yes (law18_SchedTwice 101 (((7 : Int), (7 : Int), (b : Int), ()), ()))) = true := by kernel_rfl
theorem e6_3 : (List.range 8).all (fun b => yes (law18_SchedTwice 101 (((6 : Int), (3 : Int), (b : Int), ()), ()))) = true := by kernel_rfl
theorem e5_0 : (List.range 7).all (fun b => yes (law18_SchedTwice 101 (((5 : Int), (0 : Int), (b : Int), ()), ()))) = true := by kernel_rfl
theorem e5_5 : (List.range 7).all (fun b => yes (law18_SchedTwice 101 (((5 : Int), (5 : Int), (b : Int), ()), ()))) = true := by kernel_rfl
theorem e4_3 : (List.range 6).all (fun b => yes (law18_SchedTwice 101 (((4 : Int), (3 : Int), (b : Int), ()), ()))) = true := by kernel_rfl
theorem e3_2 : (List.range 5).all (fun b => yes (law18_SchedTwice 101 (((3 : Int), (2 : Int), (b : Int), ()), ()))) = true := by kernel_rfl
theorem e2_1 : (List.range 4).all (fun b => yes (law18_SchedTwice 101 (((2 : Int), (1 : Int), (b : Int), ()), ()))) = true := by kernel_rfl
theorem e1_1 : (List.range 3).all (fun b => yes (law18_SchedTwice 101 (((1 : Int), (1 : Int), (b : Int), ()), ()))) = true := by kernel_rfl
end Go.Proofs.YtgdolcaijbkaeaaDoor.Pure
