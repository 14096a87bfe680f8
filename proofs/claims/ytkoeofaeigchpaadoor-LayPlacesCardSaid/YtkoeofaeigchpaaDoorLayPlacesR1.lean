/- LayPlaces, in plain words: rows; each is reckoned. By this session. -/
import Derived.Test.YtkoeofaeigchpaaDoorCLayPlacesR
import Derived.Test.YtkoeofaeigchpaaDoorCmPl
import Derived.KernelRfl
namespace Go.Proofs.YtkoeofaeigchpaaDoor.Pure
open Go Go.Proofs.YtkoeofaeigchpaaDoor.Cm
set_option maxRecDepth 100000
theorem e310_0 : ([0] : List Int).all (fun p => yes (law20_LayPlaces 201 (((3 : Int), (0 : Int), (0 : Int), (p : Int), ()), ()))) = true := by kernel_rfl
theorem e311_0 : ([0] : List Int).all (fun p => yes (law20_LayPlaces 201 (((3 : Int), (0 : Int), (1 : Int), (p : Int), ()), ()))) = true := by kernel_rfl
theorem e312_0 : ([0] : List Int).all (fun p => yes (law20_LayPlaces 201 (((3 : Int), (0 : Int), (2 : Int), (p : Int), ()), ()))) = true := by kernel_rfl
theorem e313_0 : ([0] : List Int).all (fun p => yes (law20_LayPlaces 201 (((3 : Int), (0 : Int), (3 : Int), (p : Int), ()), ()))) = true := by kernel_rfl
theorem e320_0 : ([0, 4, 16] : List Int).all (fun p => yes (law20_LayPlaces 201 (((3 : Int), (1 : Int), (0 : Int), (p : Int), ()), ()))) = true := by kernel_rfl
theorem e320_1 : ([20, 64, 68] : List Int).all (fun p => yes (law20_LayPlaces 201 (((3 : Int), (1 : Int), (0 : Int), (p : Int), ()), ()))) = true := by kernel_rfl
theorem e320_2 : ([80, 84] : List Int).all (fun p => yes (law20_LayPlaces 201 (((3 : Int), (1 : Int), (0 : Int), (p : Int), ()), ()))) = true := by kernel_rfl
theorem e321_0 : ([0, 4, 16] : List Int).all (fun p => yes (law20_LayPlaces 201 (((3 : Int), (1 : Int), (1 : Int), (p : Int), ()), ()))) = true := by kernel_rfl
theorem e321_1 : ([20, 64, 68] : List Int).all (fun p => yes (law20_LayPlaces 201 (((3 : Int), (1 : Int), (1 : Int), (p : Int), ()), ()))) = true := by kernel_rfl
theorem e321_2 : ([80, 84] : List Int).all (fun p => yes (law20_LayPlaces 201 (((3 : Int), (1 : Int), (1 : Int), (p : Int), ()), ()))) = true := by kernel_rfl
theorem e322_0 : ([0, 4, 16] : List Int).all (fun p => yes (law20_LayPlaces 201 (((3 : Int), (1 : Int), (2 : Int), (p : Int), ()), ()))) = true := by kernel_rfl
theorem e322_1 : ([20, 64, 68] : List Int).all (fun p => yes (law20_LayPlaces 201 (((3 : Int), (1 : Int), (2 : Int), (p : Int), ()), ()))) = true := by kernel_rfl
theorem e322_2 : ([80, 84] : List Int).all (fun p => yes (law20_LayPlaces 201 (((3 : Int), (1 : Int), (2 : Int), (p : Int), ()), ()))) = true := by kernel_rfl
theorem e323_0 : ([0, 4, 16] : List Int).all (fun p => yes (law20_LayPlaces 201 (((3 : Int), (1 : Int), (3 : Int), (p : Int), ()), ()))) = true := by kernel_rfl
theorem e323_1 : ([20, 64, 68] : List Int).all (fun p => yes (law20_LayPlaces 201 (((3 : Int), (1 : Int), (3 : Int), (p : Int), ()), ()))) = true := by kernel_rfl
theorem e323_2 : ([80, 84] : List Int).all (fun p => yes (law20_LayPlaces 201 (((3 : Int), (1 : Int), (3 : Int), (p : Int), ()), ()))) = true := by kernel_rfl
end Go.Proofs.YtkoeofaeigchpaaDoor.Pure
