/- LayPlaces, in plain words: rows; each is reckoned. By this session. -/
import Derived.Test.YtkoeofaeigchpaaDoorCLayPlacesR
import Derived.Test.YtkoeofaeigchpaaDoorCmPl
import Derived.KernelRfl
namespace Go.Proofs.YtkoeofaeigchpaaDoor.Pure
open Go Go.Proofs.YtkoeofaeigchpaaDoor.Cm
set_option maxRecDepth 100000
theorem e332_0 : ([0, 4, 8] : List Int).all (fun p => yes (law20_LayPlaces 201 (((3 : Int), (2 : Int), (2 : Int), (p : Int), ()), ()))) = true := by kernel_rfl
theorem e332_1 : ([16, 20, 24] : List Int).all (fun p => yes (law20_LayPlaces 201 (((3 : Int), (2 : Int), (2 : Int), (p : Int), ()), ()))) = true := by kernel_rfl
theorem e332_2 : ([32, 36, 40] : List Int).all (fun p => yes (law20_LayPlaces 201 (((3 : Int), (2 : Int), (2 : Int), (p : Int), ()), ()))) = true := by kernel_rfl
theorem e332_3 : ([64, 68, 72] : List Int).all (fun p => yes (law20_LayPlaces 201 (((3 : Int), (2 : Int), (2 : Int), (p : Int), ()), ()))) = true := by kernel_rfl
theorem e332_4 : ([80, 84, 88] : List Int).all (fun p => yes (law20_LayPlaces 201 (((3 : Int), (2 : Int), (2 : Int), (p : Int), ()), ()))) = true := by kernel_rfl
theorem e332_5 : ([96, 100, 104] : List Int).all (fun p => yes (law20_LayPlaces 201 (((3 : Int), (2 : Int), (2 : Int), (p : Int), ()), ()))) = true := by kernel_rfl
theorem e332_6 : ([128, 132, 136] : List Int).all (fun p => yes (law20_LayPlaces 201 (((3 : Int), (2 : Int), (2 : Int), (p : Int), ()), ()))) = true := by kernel_rfl
theorem e332_7 : ([144, 148, 152] : List Int).all (fun p => yes (law20_LayPlaces 201 (((3 : Int), (2 : Int), (2 : Int), (p : Int), ()), ()))) = true := by kernel_rfl
theorem e332_8 : ([160, 164, 168] : List Int).all (fun p => yes (law20_LayPlaces 201 (((3 : Int), (2 : Int), (2 : Int), (p : Int), ()), ()))) = true := by kernel_rfl
end Go.Proofs.YtkoeofaeigchpaaDoor.Pure
