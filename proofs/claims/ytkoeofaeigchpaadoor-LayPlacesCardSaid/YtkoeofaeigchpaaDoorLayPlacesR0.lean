/- LayPlaces, in plain words: rows; each is reckoned. By this session. -/
import Derived.Test.YtkoeofaeigchpaaDoorCLayPlacesR
import Derived.Test.YtkoeofaeigchpaaDoorCmPl
import Derived.KernelRfl
namespace Go.Proofs.YtkoeofaeigchpaaDoor.Pure
open Go Go.Proofs.YtkoeofaeigchpaaDoor.Cm
set_option maxRecDepth 100000
theorem e010_0 : ([0] : List Int).all (fun p => yes (law20_LayPlaces 201 (((0 : Int), (0 : Int), (0 : Int), (p : Int), ()), ()))) = true := by kernel_rfl
theorem e011_0 : ([0] : List Int).all (fun p => yes (law20_LayPlaces 201 (((0 : Int), (0 : Int), (1 : Int), (p : Int), ()), ()))) = true := by kernel_rfl
theorem e012_0 : ([0] : List Int).all (fun p => yes (law20_LayPlaces 201 (((0 : Int), (0 : Int), (2 : Int), (p : Int), ()), ()))) = true := by kernel_rfl
theorem e013_0 : ([0] : List Int).all (fun p => yes (law20_LayPlaces 201 (((0 : Int), (0 : Int), (3 : Int), (p : Int), ()), ()))) = true := by kernel_rfl
theorem e020_0 : ([0, 4, 16, 20, 64, 68, 80, 84] : List Int).all (fun p => yes (law20_LayPlaces 201 (((0 : Int), (1 : Int), (0 : Int), (p : Int), ()), ()))) = true := by kernel_rfl
theorem e021_0 : ([0, 4, 16, 20, 64, 68, 80, 84] : List Int).all (fun p => yes (law20_LayPlaces 201 (((0 : Int), (1 : Int), (1 : Int), (p : Int), ()), ()))) = true := by kernel_rfl
theorem e022_0 : ([0, 4, 16, 20, 64, 68, 80, 84] : List Int).all (fun p => yes (law20_LayPlaces 201 (((0 : Int), (1 : Int), (2 : Int), (p : Int), ()), ()))) = true := by kernel_rfl
theorem e023_0 : ([0, 4, 16, 20, 64, 68, 80, 84] : List Int).all (fun p => yes (law20_LayPlaces 201 (((0 : Int), (1 : Int), (3 : Int), (p : Int), ()), ()))) = true := by kernel_rfl
theorem e030_0 : ([0, 4, 8, 16, 20, 24, 32, 36, 40, 64, 68, 72, 80, 84, 88, 96, 100, 104, 128, 132, 136, 144, 148, 152, 160, 164, 168] : List Int).all (fun p => yes (law20_LayPlaces 201 (((0 : Int), (2 : Int), (0 : Int), (p : Int), ()), ()))) = true := by kernel_rfl
theorem e031_0 : ([0, 4, 8, 16, 20, 24, 32, 36, 40, 64, 68, 72, 80, 84, 88, 96, 100, 104, 128, 132, 136, 144, 148, 152, 160, 164, 168] : List Int).all (fun p => yes (law20_LayPlaces 201 (((0 : Int), (2 : Int), (1 : Int), (p : Int), ()), ()))) = true := by kernel_rfl
theorem e032_0 : ([0, 4, 8, 16, 20, 24, 32, 36, 40, 64, 68, 72, 80, 84, 88, 96, 100, 104, 128, 132, 136, 144, 148, 152, 160, 164, 168] : List Int).all (fun p => yes (law20_LayPlaces 201 (((0 : Int), (2 : Int), (2 : Int), (p : Int), ()), ()))) = true := by kernel_rfl
theorem e033_0 : ([0, 4, 8, 16, 20, 24, 32, 36, 40, 64, 68, 72, 80, 84, 88, 96, 100, 104, 128, 132, 136, 144, 148, 152, 160, 164, 168] : List Int).all (fun p => yes (law20_LayPlaces 201 (((0 : Int), (2 : Int), (3 : Int), (p : Int), ()), ()))) = true := by kernel_rfl
theorem e110_0 : ([0] : List Int).all (fun p => yes (law20_LayPlaces 201 (((1 : Int), (0 : Int), (0 : Int), (p : Int), ()), ()))) = true := by kernel_rfl
theorem e111_0 : ([0] : List Int).all (fun p => yes (law20_LayPlaces 201 (((1 : Int), (0 : Int), (1 : Int), (p : Int), ()), ()))) = true := by kernel_rfl
theorem e112_0 : ([0] : List Int).all (fun p => yes (law20_LayPlaces 201 (((1 : Int), (0 : Int), (2 : Int), (p : Int), ()), ()))) = true := by kernel_rfl
theorem e113_0 : ([0] : List Int).all (fun p => yes (law20_LayPlaces 201 (((1 : Int), (0 : Int), (3 : Int), (p : Int), ()), ()))) = true := by kernel_rfl
theorem e120_0 : ([0, 4, 16, 20, 64, 68, 80, 84] : List Int).all (fun p => yes (law20_LayPlaces 201 (((1 : Int), (1 : Int), (0 : Int), (p : Int), ()), ()))) = true := by kernel_rfl
theorem e121_0 : ([0, 4, 16, 20, 64, 68, 80, 84] : List Int).all (fun p => yes (law20_LayPlaces 201 (((1 : Int), (1 : Int), (1 : Int), (p : Int), ()), ()))) = true := by kernel_rfl
theorem e122_0 : ([0, 4, 16, 20, 64, 68, 80, 84] : List Int).all (fun p => yes (law20_LayPlaces 201 (((1 : Int), (1 : Int), (2 : Int), (p : Int), ()), ()))) = true := by kernel_rfl
theorem e123_0 : ([0, 4, 16, 20, 64, 68, 80, 84] : List Int).all (fun p => yes (law20_LayPlaces 201 (((1 : Int), (1 : Int), (3 : Int), (p : Int), ()), ()))) = true := by kernel_rfl
theorem e130_0 : ([0, 4, 8, 16, 20, 24, 32, 36, 40, 64, 68, 72, 80, 84, 88, 96, 100, 104, 128, 132, 136, 144, 148, 152, 160, 164, 168] : List Int).all (fun p => yes (law20_LayPlaces 201 (((1 : Int), (2 : Int), (0 : Int), (p : Int), ()), ()))) = true := by kernel_rfl
theorem e131_0 : ([0, 4, 8, 16, 20, 24, 32, 36, 40, 64, 68, 72, 80, 84, 88, 96, 100, 104, 128, 132, 136, 144, 148, 152, 160, 164, 168] : List Int).all (fun p => yes (law20_LayPlaces 201 (((1 : Int), (2 : Int), (1 : Int), (p : Int), ()), ()))) = true := by kernel_rfl
theorem e132_0 : ([0, 4, 8, 16, 20, 24, 32, 36, 40, 64, 68, 72, 80, 84, 88, 96, 100, 104, 128, 132, 136, 144, 148, 152, 160, 164, 168] : List Int).all (fun p => yes (law20_LayPlaces 201 (((1 : Int), (2 : Int), (2 : Int), (p : Int), ()), ()))) = true := by kernel_rfl
theorem e133_0 : ([0, 4, 8, 16, 20, 24, 32, 36, 40, 64, 68, 72, 80, 84, 88, 96, 100, 104, 128, 132, 136, 144, 148, 152, 160, 164, 168] : List Int).all (fun p => yes (law20_LayPlaces 201 (((1 : Int), (2 : Int), (3 : Int), (p : Int), ()), ()))) = true := by kernel_rfl
theorem e210_0 : ([0] : List Int).all (fun p => yes (law20_LayPlaces 201 (((2 : Int), (0 : Int), (0 : Int), (p : Int), ()), ()))) = true := by kernel_rfl
theorem e211_0 : ([0] : List Int).all (fun p => yes (law20_LayPlaces 201 (((2 : Int), (0 : Int), (1 : Int), (p : Int), ()), ()))) = true := by kernel_rfl
theorem e212_0 : ([0] : List Int).all (fun p => yes (law20_LayPlaces 201 (((2 : Int), (0 : Int), (2 : Int), (p : Int), ()), ()))) = true := by kernel_rfl
theorem e213_0 : ([0] : List Int).all (fun p => yes (law20_LayPlaces 201 (((2 : Int), (0 : Int), (3 : Int), (p : Int), ()), ()))) = true := by kernel_rfl
theorem e220_0 : ([0, 4, 16, 20, 64, 68, 80, 84] : List Int).all (fun p => yes (law20_LayPlaces 201 (((2 : Int), (1 : Int), (0 : Int), (p : Int), ()), ()))) = true := by kernel_rfl
theorem e221_0 : ([0, 4, 16, 20, 64, 68, 80, 84] : List Int).all (fun p => yes (law20_LayPlaces 201 (((2 : Int), (1 : Int), (1 : Int), (p : Int), ()), ()))) = true := by kernel_rfl
theorem e222_0 : ([0, 4, 16, 20, 64, 68, 80, 84] : List Int).all (fun p => yes (law20_LayPlaces 201 (((2 : Int), (1 : Int), (2 : Int), (p : Int), ()), ()))) = true := by kernel_rfl
theorem e223_0 : ([0, 4, 16, 20, 64, 68, 80, 84] : List Int).all (fun p => yes (law20_LayPlaces 201 (((2 : Int), (1 : Int), (3 : Int), (p : Int), ()), ()))) = true := by kernel_rfl
theorem e230_0 : ([0, 4, 8, 16, 20, 24, 32, 36, 40] : List Int).all (fun p => yes (law20_LayPlaces 201 (((2 : Int), (2 : Int), (0 : Int), (p : Int), ()), ()))) = true := by kernel_rfl
theorem e230_1 : ([64, 68, 72, 80, 84, 88, 96, 100, 104] : List Int).all (fun p => yes (law20_LayPlaces 201 (((2 : Int), (2 : Int), (0 : Int), (p : Int), ()), ()))) = true := by kernel_rfl
theorem e230_2 : ([128, 132, 136, 144, 148, 152, 160, 164, 168] : List Int).all (fun p => yes (law20_LayPlaces 201 (((2 : Int), (2 : Int), (0 : Int), (p : Int), ()), ()))) = true := by kernel_rfl
theorem e231_0 : ([0, 4, 8, 16, 20, 24, 32, 36, 40] : List Int).all (fun p => yes (law20_LayPlaces 201 (((2 : Int), (2 : Int), (1 : Int), (p : Int), ()), ()))) = true := by kernel_rfl
theorem e231_1 : ([64, 68, 72, 80, 84, 88, 96, 100, 104] : List Int).all (fun p => yes (law20_LayPlaces 201 (((2 : Int), (2 : Int), (1 : Int), (p : Int), ()), ()))) = true := by kernel_rfl
theorem e231_2 : ([128, 132, 136, 144, 148, 152, 160, 164, 168] : List Int).all (fun p => yes (law20_LayPlaces 201 (((2 : Int), (2 : Int), (1 : Int), (p : Int), ()), ()))) = true := by kernel_rfl
theorem e232_0 : ([0, 4, 8, 16, 20, 24, 32, 36, 40] : List Int).all (fun p => yes (law20_LayPlaces 201 (((2 : Int), (2 : Int), (2 : Int), (p : Int), ()), ()))) = true := by kernel_rfl
theorem e232_1 : ([64, 68, 72, 80, 84, 88, 96, 100, 104] : List Int).all (fun p => yes (law20_LayPlaces 201 (((2 : Int), (2 : Int), (2 : Int), (p : Int), ()), ()))) = true := by kernel_rfl
theorem e232_2 : ([128, 132, 136, 144, 148, 152, 160, 164, 168] : List Int).all (fun p => yes (law20_LayPlaces 201 (((2 : Int), (2 : Int), (2 : Int), (p : Int), ()), ()))) = true := by kernel_rfl
theorem e233_0 : ([0, 4, 8, 16, 20, 24, 32, 36, 40] : List Int).all (fun p => yes (law20_LayPlaces 201 (((2 : Int), (2 : Int), (3 : Int), (p : Int), ()), ()))) = true := by kernel_rfl
theorem e233_1 : ([64, 68, 72, 80, 84, 88, 96, 100, 104] : List Int).all (fun p => yes (law20_LayPlaces 201 (((2 : Int), (2 : Int), (3 : Int), (p : Int), ()), ()))) = true := by kernel_rfl
theorem e233_2 : ([128, 132, 136, 144, 148, 152, 160, 164, 168] : List Int).all (fun p => yes (law20_LayPlaces 201 (((2 : Int), (2 : Int), (3 : Int), (p : Int), ()), ()))) = true := by kernel_rfl
end Go.Proofs.YtkoeofaeigchpaaDoor.Pure
