/- SchedTwice, in plain words: rows; each is reckoned. By this session. -/
import Derived.Test.YtgdolcaijbkaeaaDoorCSchedTwiceR
import Derived.Test.YtgdolcaijbkaeaaDoorCmPl
import Derived.KernelRfl
namespace Go.Proofs.YtgdolcaijbkaeaaDoor.Pure
open Go Go.Proofs.YtgdolcaijbkaeaaDoor.Cm
set_option maxRecDepth 100000
theorem e19_0 : (List.range 21).all (fun b => yes (law18_SchedTwice 101 (((19 : Int), (0 : Int), (b : Int), ()), ()))) = true := by kernel_rfl
theorem e19_5 : (List.range 21).all (fun b => yes (law18_SchedTwice 101 (((19 : Int), (5 : Int), (b : Int), ()), ()))) = true := by kernel_rfl
theorem e19_10 : (List.range 21).all (fun b => yes (law18_SchedTwice 101 (((19 : Int), (10 : Int), (b : Int), ()), ()))) = true := by kernel_rfl
theorem e19_15 : (List.range 21).all (fun b => yes (law18_SchedTwice 101 (((19 : Int), (15 : Int), (b : Int), ()), ()))) = true := by kernel_rfl
theorem e19_20 : (List.range 21).all (fun b => yes (law18_SchedTwice 101 (((19 : Int), (20 : Int), (b : Int), ()), ()))) = true := by kernel_rfl
theorem e18_8 : (List.range 20).all (fun b => yes (law18_SchedTwice 101 (((18 : Int), (8 : Int), (b : Int), ()), ()))) = true := by kernel_rfl
theorem e18_13 : (List.range 20).all (fun b => yes (law18_SchedTwice 101 (((18 : Int), (13 : Int), (b : Int), ()), ()))) = true := by kernel_rfl
theorem e18_18 : (List.range 20).all (fun b => yes (law18_SchedTwice 101 (((18 : Int), (18 : Int), (b : Int), ()), ()))) = true := by kernel_rfl
theorem e17_3 : (List.range 19).all (fun b => yes (law18_SchedTwice 101 (((17 : Int), (3 : Int), (b : Int), ()), ()))) = true := by kernel_rfl
theorem e17_8 : (List.range 19).all (fun b => yes (law18_SchedTwice 101 (((17 : Int), (8 : Int), (b : Int), ()), ()))) = true := by kernel_rfl
theorem e17_13 : (List.range 19).all (fun b => yes (law18_SchedTwice 101 (((17 : Int), (13 : Int), (b : Int), ()), ()))) = true := by kernel_rfl
theorem e17_18 : (List.range 19).all (fun b => yes (law18_SchedTwice 101 (((17 : Int), (18 : Int), (b : Int), ()), ()))) = true := by kernel_rfl
theorem e16_4 : (List.range 18).all (fun b => yes (law18_SchedTwice 101 (((16 : Int), (4 : Int), (b : Int), ()), ()))) = true := by kernel_rfl
theorem e16_9 : (List.range 18).all (fun b => yes (law18_SchedTwice 101 (((16 : Int), (9 : Int), (b : Int), ()), ()))) = true := by kernel_rfl
theorem e16_14 : (List.range 18).all (fun b => yes (law18_SchedTwice 101 (((16 : Int), (14 : Int), (b : Int), ()), ()))) = true := by kernel_rfl
theorem e15_1 : (List.range 17).all (fun b => yes (law18_SchedTwice 101 (((15 : Int), (1 : Int), (b : Int), ()), ()))) = true := by kernel_rfl
theorem e15_6 : (List.range 17).all (fun b => yes (law18_SchedTwice 101 (((15 : Int), (6 : Int), (b : Int), ()), ()))) = true := by kernel_rfl
theorem e15_11 : (List.range 17).all (fun b => yes (law18_SchedTwice 101 (((15 : Int), (11 : Int), (b : Int), ()), ()))) = true := by kernel_rfl
theorem e15_16 : (List.range 17).all (fun b => yes (law18_SchedTwice 101 (((15 : Int), (16 : Int), (b : Int), ()), ()))) = true := by kernel_rfl
theorem e14_4 : (List.range 16).all (fun b => yes (law18_SchedTwice 101 (((14 : Int), (4 : Int), (b : Int), ()), ()))) = true := by kernel_rfl
theorem e14_9 : (List.range 16).all (fun b => yes (law18_SchedTwice 101 (((14 : Int), (9 : Int), (b : Int), ()), ()))) = true := by kernel_rfl
theorem e14_14 : (List.range 16).all (fun b => yes (law18_SchedTwice 101 (((14 : Int), (14 : Int), (b : Int), ()), ()))) = true := by kernel_rfl
theorem e13_3 : (List.range 15).all (fun b => yes (law18_SchedTwice 101 (((13 : Int), (3 : Int), (b : Int), ()), ()))) = true := by kernel_rfl
theorem e13_7 : (List.range 15).all (fun b => yes (law18_SchedTwice 101 (((13 : Int), (7 : Int), (b : Int), ()), ()))) = true := by kernel_rfl
theorem e13_12 : (List.range 15).all (fun b => yes (law18_SchedTwice 101 (((13 : Int), (12 : Int), (b : Int), ()), ()))) = true := by kernel_rfl
theorem e12_2 : (List.range 14).all (fun b => yes (law18_SchedTwice 101 (((12 : Int), (2 : Int), (b : Int), ()), ()))) = true := by kernel_rfl
theorem e12_6 : (List.range 14).all (fun b => yes (law18_SchedTwice 101 (((12 : Int), (6 : Int), (b : Int), ()), ()))) = true := by kernel_rfl
theorem e12_11 : (List.range 14).all (fun b => yes (law18_SchedTwice 101 (((12 : Int), (11 : Int), (b : Int), ()), ()))) = true := by kernel_rfl
theorem e11_2 : (List.range 13).all (fun b => yes (law18_SchedTwice 101 (((11 : Int), (2 : Int), (b : Int), ()), ()))) = true := by kernel_rfl
theorem e11_7 : (List.range 13).all (fun b => yes (law18_SchedTwice 101 (((11 : Int), (7 : Int), (b : Int), ()), ()))) = true := by kernel_rfl
theorem e11_12 : (List.range 13).all (fun b => yes (law18_SchedTwice 101 (((11 : Int), (12 : Int), (b : Int), ()), ()))) = true := by kernel_rfl
theorem e10_5 : (List.range 12).all (fun b => yes (law18_SchedTwice 101 (((10 : Int), (5 : Int), (b : Int), ()), ()))) = true := by kernel_rfl
theorem e10_10 : (List.range 12).all (fun b => yes (law18_SchedTwice 101 (((10 : Int), (10 : Int), (b : Int), ()), ()))) = true := by kernel_rfl
theorem e9_3 : (List.range 11).all (fun b => yes (law18_SchedTwice 101 (((9 : Int), (3 : Int), (b : Int), ()), ()))) = true := by kernel_rfl
theorem e9_8 : (List.range 11).all (fun b => yes (law18_SchedTwice 101 (((9 : Int), (8 : Int), (b : Int), ()), ()))) = true := by kernel_rfl
theorem e8_2 : (List.range 10).all (fun b => yes (law18_SchedTwice 101 (((8 : Int), (2 : Int), (b : Int), ()), ()))) = true := by kernel_rfl
theorem e8_6 : (List.range 10).all (fun b => yes (law18_SchedTwice 101 (((8 : Int), (6 : Int), (b : Int), ()), ()))) = true := by kernel_rfl
theorem e7_1 : (List.range 9).all (fun b => yes (law18_SchedTwice 101 (((7 : Int), (1 : Int), (b : Int), ()), ()))) = true := by kernel_rfl
theorem e7_5 : (List.range 9).all (fun b => yes (law18_SchedTwice 101 (((7 : Int), (5 : Int), (b : Int), ()), ()))) = true := by kernel_rfl
theorem e6_1 : (List.range 8).all (fun b => yes (law18_SchedTwice 101 (((6 : Int), (1 : Int), (b : Int), ()), ()))) = true := by kernel_rfl
theorem e6_6 : (List.range 8).all (fun b => yes (law18_SchedTwice 101 (((6 : Int), (6 : Int), (b : Int), ()), ()))) = true := by kernel_rfl
theorem e5_3 : (List.range 7).all (fun b => yes (law18_SchedTwice 101 (((5 : Int), (3 : Int), (b : Int), ()), ()))) = true := by kernel_rfl
theorem e4_1 : (List.range 6).all (fun b => yes (law18_SchedTwice 101 (((4 : Int), (1 : Int), (b : Int), ()), ()))) = true := by kernel_rfl
theorem e3_0 : (List.range 5).all (fun b => yes (law18_SchedTwice 101 (((3 : Int), (0 : Int), (b : Int), ()), ()))) = true := by kernel_rfl
theorem e3_4 : (List.range 5).all (fun b => yes (law18_SchedTwice 101 (((3 : Int), (4 : Int), (b : Int), ()), ()))) = true := by kernel_rfl
theorem e0_0 : (List.range 2).all (fun b => yes (law18_SchedTwice 101 (((0 : Int), (0 : Int), (b : Int), ()), ()))) = true := by kernel_rfl
end Go.Proofs.YtgdolcaijbkaeaaDoor.Pure
