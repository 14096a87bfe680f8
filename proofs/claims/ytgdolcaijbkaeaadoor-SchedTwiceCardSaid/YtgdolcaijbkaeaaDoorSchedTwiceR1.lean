/- SchedTwice, in plain words: rows; each is reckoned. By this session. -/
import Derived.Test.YtgdolcaijbkaeaaDoorCSchedTwiceR
import Derived.Test.YtgdolcaijbkaeaaDoorCmPl
import Derived.KernelRfl
namespace Go.Proofs.YtgdolcaijbkaeaaDoor.Pure
open Go Go.Proofs.YtgdolcaijbkaeaaDoor.Cm
set_option maxRecDepth 100000
theorem e19_1 : (List.range 21).all (fun b => yes (law18_SchedTwice 101 (((19 : Int), (1 : Int), (b : Int), ()), ()))) = true := by kernel_rfl
theorem e19_6 : (List.range 21).all (fun b => yes (law18_SchedTwice 101 (((19 : Int), (6 : Int), (b : Int), ()), ()))) = true := by kernel_rfl
theorem e19_11 : (List.range 21).all (fun b => yes (law18_SchedTwice 101 (((19 : Int), (11 : Int), (b : Int), ()), ()))) = true := by kernel_rfl
theorem e19_16 : (List.range 21).all (fun b => yes (law18_SchedTwice 101 (((19 : Int), (16 : Int), (b : Int), ()), ()))) = true := by kernel_rfl
theorem e18_0 : (List.range 20).all (fun b => yes (law18_SchedTwice 101 (((18 : Int), (0 : Int), (b : Int), ()), ()))) = true := by kernel_rfl
theorem e18_4 : (List.range 20).all (fun b => yes (law18_SchedTwice 101 (((18 : Int), (4 : Int), (b : Int), ()), ()))) = true := by kernel_rfl
theorem e18_9 : (List.range 20).all (fun b => yes (law18_SchedTwice 101 (((18 : Int), (9 : Int), (b : Int), ()), ()))) = true := by kernel_rfl
theorem e18_14 : (List.range 20).all (fun b => yes (law18_SchedTwice 101 (((18 : Int), (14 : Int), (b : Int), ()), ()))) = true := by kernel_rfl
theorem e18_19 : (List.range 20).all (fun b => yes (law18_SchedTwice 101 (((18 : Int), (19 : Int), (b : Int), ()), ()))) = true := by kernel_rfl
theorem e17_7 : (List.range 19).all (fun b => yes (law18_SchedTwice 101 (((17 : Int), (7 : Int), (b : Int), ()), ()))) = true := by kernel_rfl
theorem e17_12 : (List.range 19).all (fun b => yes (law18_SchedTwice 101 (((17 : Int), (12 : Int), (b : Int), ()), ()))) = true := by kernel_rfl
theorem e17_17 : (List.range 19).all (fun b => yes (law18_SchedTwice 101 (((17 : Int), (17 : Int), (b : Int), ()), ()))) = true := by kernel_rfl
theorem e16_3 : (List.range 18).all (fun b => yes (law18_SchedTwice 101 (((16 : Int), (3 : Int), (b : Int), ()), ()))) = true := by kernel_rfl
theorem e16_8 : (List.range 18).all (fun b => yes (law18_SchedTwice 101 (((16 : Int), (8 : Int), (b : Int), ()), ()))) = true := by kernel_rfl
theorem e16_13 : (List.range 18).all (fun b => yes (law18_SchedTwice 101 (((16 : Int), (13 : Int), (b : Int), ()), ()))) = true := by kernel_rfl
theorem e15_0 : (List.range 17).all (fun b => yes (law18_SchedTwice 101 (((15 : Int), (0 : Int), (b : Int), ()), ()))) = true := by kernel_rfl
theorem e15_5 : (List.range 17).all (fun b => yes (law18_SchedTwice 101 (((15 : Int), (5 : Int), (b : Int), ()), ()))) = true := by kernel_rfl
theorem e15_10 : (List.range 17).all (fun b => yes (law18_SchedTwice 101 (((15 : Int), (10 : Int), (b : Int), ()), ()))) = true := by kernel_rfl
theorem e15_15 : (List.range 17).all (fun b => yes (law18_SchedTwice 101 (((15 : Int), (15 : Int), (b : Int), ()), ()))) = true := by kernel_rfl
theorem e14_3 : (List.range 16).all (fun b => yes (law18_SchedTwice 101 (((14 : Int), (3 : Int), (b : Int), ()), ()))) = true := by kernel_rfl
theorem e14_8 : (List.range 16).all (fun b => yes (law18_SchedTwice 101 (((14 : Int), (8 : Int), (b : Int), ()), ()))) = true := by kernel_rfl
theorem e14_13 : (List.range 16).all (fun b => yes (law18_SchedTwice 101 (((14 : Int), (13 : Int), (b : Int), ()), ()))) = true := by kernel_rfl
theorem e13_2 : (List.range 15).all (fun b => yes (law18_SchedTwice 101 (((13 : Int), (2 : Int), (b : Int), ()), ()))) = true := by kernel_rfl
theorem e13_6 : (List.range 15).all (fun b => yes (law18_SchedTwice 101 (((13 : Int), (6 : Int), (b : Int), ()), ()))) = true := by kernel_rfl
theorem e13_11 : (List.range 15).all (fun b => yes (law18_SchedTwice 101 (((13 : Int), (11 : Int), (b : Int), ()), ()))) = true := by kernel_rfl
theorem e12_1 : (List.range 14).all (fun b => yes (law18_SchedTwice 101 (((12 : Int), (1 : Int), (b : Int), ()), ()))) = true := by kernel_rfl
theorem e12_5 : (List.range 14).all (fun b => yes (law18_SchedTwice 101 (((12 : Int), (5 : Int), (b : Int), ()), ()))) = true := by kernel_rfl
theorem e12_10 : (List.range 14).all (fun b => yes (law18_SchedTwice 101 (((12 : Int), (10 : Int), (b : Int), ()), ()))) = true := by kernel_rfl
theorem e11_1 : (List.range 13).all (fun b => yes (law18_SchedTwice 101 (((11 : Int), (1 : Int), (b : Int), ()), ()))) = true := by kernel_rfl
theorem e11_6 : (List.range 13).all (fun b => yes (law18_SchedTwice 101 (((11 : Int), (6 : Int), (b : Int), ()), ()))) = true := by kernel_rfl
theorem e11_11 : (List.range 13).all (fun b => yes (law18_SchedTwice 101 (((11 : Int), (11 : Int), (b : Int), ()), ()))) = true := by kernel_rfl
theorem e10_3 : (List.range 12).all (fun b => yes (law18_SchedTwice 101 (((10 : Int), (3 : Int), (b : Int), ()), ()))) = true := by kernel_rfl
theorem e10_8 : (List.range 12).all (fun b => yes (law18_SchedTwice 101 (((10 : Int), (8 : Int), (b : Int), ()), ()))) = true := by kernel_rfl
theorem e9_1 : (List.range 11).all (fun b => yes (law18_SchedTwice 101 (((9 : Int), (1 : Int), (b : Int), ()), ()))) = true := by kernel_rfl
theorem e9_6 : (List.range 11).all (fun b => yes (law18_SchedTwice 101 (((9 : Int), (6 : Int), (b : Int), ()), ()))) = true := by kernel_rfl
theorem e8_0 : (List.range 10).all (fun b => yes (law18_SchedTwice 101 (((8 : Int), (0 : Int), (b : Int), ()), ()))) = true := by kernel_rfl
theorem e8_4 : (List.range 10).all (fun b => yes (law18_SchedTwice 101 (((8 : Int), (4 : Int), (b : Int), ()), ()))) = true := by kernel_rfl
theorem e8_9 : (List.range 10).all (fun b => yes (law18_SchedTwice 101 (((8 : Int), (9 : Int), (b : Int), ()), ()))) = true := by kernel_rfl
theorem e7_8 : (List.range 9).all (fun b => yes (law18_SchedTwice 101 (((7 : Int), (8 : Int), (b : Int), ()), ()))) = true := by kernel_rfl
theorem e6_4 : (List.range 8).all (fun b => yes (law18_SchedTwice 101 (((6 : Int), (4 : Int), (b : Int), ()), ()))) = true := by kernel_rfl
theorem e5_1 : (List.range 7).all (fun b => yes (law18_SchedTwice 101 (((5 : Int), (1 : Int), (b : Int), ()), ()))) = true := by kernel_rfl
theorem e5_6 : (List.range 7).all (fun b => yes (law18_SchedTwice 101 (((5 : Int), (6 : Int), (b : Int), ()), ()))) = true := by kernel_rfl
theorem e4_4 : (List.range 6).all (fun b => yes (law18_SchedTwice 101 (((4 : Int), (4 : Int), (b : Int), ()), ()))) = true := by kernel_rfl
theorem e3_3 : (List.range 5).all (fun b => yes (law18_SchedTwice 101 (((3 : Int), (3 : Int), (b : Int), ()), ()))) = true := by kernel_rfl
theorem e2_2 : (List.range 4).all (fun b => yes (law18_SchedTwice 101 (((2 : Int), (2 : Int), (b : Int), ()), ()))) = true := by kernel_rfl
theorem e1_2 : (List.range 3).all (fun b => yes (law18_SchedTwice 101 (((1 : Int), (2 : Int), (b : Int), ()), ()))) = true := by kernel_rfl
end Go.Proofs.YtgdolcaijbkaeaaDoor.Pure
