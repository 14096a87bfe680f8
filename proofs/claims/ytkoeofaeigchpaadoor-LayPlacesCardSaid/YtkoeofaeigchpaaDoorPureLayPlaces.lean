/- LayPlaces, in plain words: there are but so many. By this session. -/
import Derived.Test.YtkoeofaeigchpaaDoorLayPlacesR0
import Derived.Test.YtkoeofaeigchpaaDoorLayPlacesR1
import Derived.Test.YtkoeofaeigchpaaDoorLayPlacesR2
import Derived.Test.YtkoeofaeigchpaaDoorLayPlacesR3
import Derived.Test.YtkoeofaeigchpaaDoorLayPlacesR4
import Derived.Test.YtkoeofaeigchpaaDoorLayPlacesR5
import Derived.Test.YtkoeofaeigchpaaDoorCmPl
import Derived.KernelRfl
namespace Go.Proofs.YtkoeofaeigchpaaDoor.Pure
open Go Go.Proofs.YtkoeofaeigchpaaDoor.Cm
set_option maxRecDepth 100000
set_option linter.unusedVariables false
def reps1 : List Int := [0]
def reps2 : List Int := [0, 4, 16, 20, 64, 68, 80, 84]
def reps3 : List Int := [0, 4, 8, 16, 20, 24, 32, 36, 40, 64, 68, 72, 80, 84, 88, 96, 100, 104, 128, 132, 136, 144, 148, 152, 160, 164, 168]
def repsW (w : Nat) : List Int := match w with | 0 => reps1 | 1 => reps2 | _ => reps3
theorem all_app {α : Type} {p : α → Bool} {a b : List α} (h : a.all p = true) (k : b.all p = true) : (a ++ b).all p = true := by rw [List.all_append, h, k]; rfl
theorem r010 : (repsW 0).all (fun p => yes (law20_LayPlaces 201 (((0 : Int), (0 : Int), (0 : Int), (p : Int), ()), ()))) = true := e010_0
theorem r011 : (repsW 0).all (fun p => yes (law20_LayPlaces 201 (((0 : Int), (0 : Int), (1 : Int), (p : Int), ()), ()))) = true := e011_0
theorem r012 : (repsW 0).all (fun p => yes (law20_LayPlaces 201 (((0 : Int), (0 : Int), (2 : Int), (p : Int), ()), ()))) = true := e012_0
theorem r013 : (repsW 0).all (fun p => yes (law20_LayPlaces 201 (((0 : Int), (0 : Int), (3 : Int), (p : Int), ()), ()))) = true := e013_0
theorem r020 : (repsW 1).all (fun p => yes (law20_LayPlaces 201 (((0 : Int), (1 : Int), (0 : Int), (p : Int), ()), ()))) = true := e020_0
theorem r021 : (repsW 1).all (fun p => yes (law20_LayPlaces 201 (((0 : Int), (1 : Int), (1 : Int), (p : Int), ()), ()))) = true := e021_0
theorem r022 : (repsW 1).all (fun p => yes (law20_LayPlaces 201 (((0 : Int), (1 : Int), (2 : Int), (p : Int), ()), ()))) = true := e022_0
theorem r023 : (repsW 1).all (fun p => yes (law20_LayPlaces 201 (((0 : Int), (1 : Int), (3 : Int), (p : Int), ()), ()))) = true := e023_0
theorem r030 : (repsW 2).all (fun p => yes (law20_LayPlaces 201 (((0 : Int), (2 : Int), (0 : Int), (p : Int), ()), ()))) = true := e030_0
theorem r031 : (repsW 2).all (fun p => yes (law20_LayPlaces 201 (((0 : Int), (2 : Int), (1 : Int), (p : Int), ()), ()))) = true := e031_0
theorem r032 : (repsW 2).all (fun p => yes (law20_LayPlaces 201 (((0 : Int), (2 : Int), (2 : Int), (p : Int), ()), ()))) = true := e032_0
theorem r033 : (repsW 2).all (fun p => yes (law20_LayPlaces 201 (((0 : Int), (2 : Int), (3 : Int), (p : Int), ()), ()))) = true := e033_0
theorem r110 : (repsW 0).all (fun p => yes (law20_LayPlaces 201 (((1 : Int), (0 : Int), (0 : Int), (p : Int), ()), ()))) = true := e110_0
theorem r111 : (repsW 0).all (fun p => yes (law20_LayPlaces 201 (((1 : Int), (0 : Int), (1 : Int), (p : Int), ()), ()))) = true := e111_0
theorem r112 : (repsW 0).all (fun p => yes (law20_LayPlaces 201 (((1 : Int), (0 : Int), (2 : Int), (p : Int), ()), ()))) = true := e112_0
theorem r113 : (repsW 0).all (fun p => yes (law20_LayPlaces 201 (((1 : Int), (0 : Int), (3 : Int), (p : Int), ()), ()))) = true := e113_0
theorem r120 : (repsW 1).all (fun p => yes (law20_LayPlaces 201 (((1 : Int), (1 : Int), (0 : Int), (p : Int), ()), ()))) = true := e120_0
theorem r121 : (repsW 1).all (fun p => yes (law20_LayPlaces 201 (((1 : Int), (1 : Int), (1 : Int), (p : Int), ()), ()))) = true := e121_0
theorem r122 : (repsW 1).all (fun p => yes (law20_LayPlaces 201 (((1 : Int), (1 : Int), (2 : Int), (p : Int), ()), ()))) = true := e122_0
theorem r123 : (repsW 1).all (fun p => yes (law20_LayPlaces 201 (((1 : Int), (1 : Int), (3 : Int), (p : Int), ()), ()))) = true := e123_0
theorem r130 : (repsW 2).all (fun p => yes (law20_LayPlaces 201 (((1 : Int), (2 : Int), (0 : Int), (p : Int), ()), ()))) = true := e130_0
theorem r131 : (repsW 2).all (fun p => yes (law20_LayPlaces 201 (((1 : Int), (2 : Int), (1 : Int), (p : Int), ()), ()))) = true := e131_0
theorem r132 : (repsW 2).all (fun p => yes (law20_LayPlaces 201 (((1 : Int), (2 : Int), (2 : Int), (p : Int), ()), ()))) = true := e132_0
theorem r133 : (repsW 2).all (fun p => yes (law20_LayPlaces 201 (((1 : Int), (2 : Int), (3 : Int), (p : Int), ()), ()))) = true := e133_0
theorem r210 : (repsW 0).all (fun p => yes (law20_LayPlaces 201 (((2 : Int), (0 : Int), (0 : Int), (p : Int), ()), ()))) = true := e210_0
theorem r211 : (repsW 0).all (fun p => yes (law20_LayPlaces 201 (((2 : Int), (0 : Int), (1 : Int), (p : Int), ()), ()))) = true := e211_0
theorem r212 : (repsW 0).all (fun p => yes (law20_LayPlaces 201 (((2 : Int), (0 : Int), (2 : Int), (p : Int), ()), ()))) = true := e212_0
theorem r213 : (repsW 0).all (fun p => yes (law20_LayPlaces 201 (((2 : Int), (0 : Int), (3 : Int), (p : Int), ()), ()))) = true := e213_0
theorem r220 : (repsW 1).all (fun p => yes (law20_LayPlaces 201 (((2 : Int), (1 : Int), (0 : Int), (p : Int), ()), ()))) = true := e220_0
theorem r221 : (repsW 1).all (fun p => yes (law20_LayPlaces 201 (((2 : Int), (1 : Int), (1 : Int), (p : Int), ()), ()))) = true := e221_0
theorem r222 : (repsW 1).all (fun p => yes (law20_LayPlaces 201 (((2 : Int), (1 : Int), (2 : Int), (p : Int), ()), ()))) = true := e222_0
theorem r223 : (repsW 1).all (fun p => yes (law20_LayPlaces 201 (((2 : Int), (1 : Int), (3 : Int), (p : Int), ()), ()))) = true := e223_0
theorem r230 : (repsW 2).all (fun p => yes (law20_LayPlaces 201 (((2 : Int), (2 : Int), (0 : Int), (p : Int), ()), ()))) = true := all_app e230_0 (all_app e230_1 (e230_2))
theorem r231 : (repsW 2).all (fun p => yes (law20_LayPlaces 201 (((2 : Int), (2 : Int), (1 : Int), (p : Int), ()), ()))) = true := all_app e231_0 (all_app e231_1 (e231_2))
theorem r232 : (repsW 2).all (fun p => yes (law20_LayPlaces 201 (((2 : Int), (2 : Int), (2 : Int), (p : Int), ()), ()))) = true := all_app e232_0 (all_app e232_1 (e232_2))
theorem r233 : (repsW 2).all (fun p => yes (law20_LayPlaces 201 (((2 : Int), (2 : Int), (3 : Int), (p : Int), ()), ()))) = true := all_app e233_0 (all_app e233_1 (e233_2))
theorem r310 : (repsW 0).all (fun p => yes (law20_LayPlaces 201 (((3 : Int), (0 : Int), (0 : Int), (p : Int), ()), ()))) = true := e310_0
theorem r311 : (repsW 0).all (fun p => yes (law20_LayPlaces 201 (((3 : Int), (0 : Int), (1 : Int), (p : Int), ()), ()))) = true := e311_0
theorem r312 : (repsW 0).all (fun p => yes (law20_LayPlaces 201 (((3 : Int), (0 : Int), (2 : Int), (p : Int), ()), ()))) = true := e312_0
theorem r313 : (repsW 0).all (fun p => yes (law20_LayPlaces 201 (((3 : Int), (0 : Int), (3 : Int), (p : Int), ()), ()))) = true := e313_0
theorem r320 : (repsW 1).all (fun p => yes (law20_LayPlaces 201 (((3 : Int), (1 : Int), (0 : Int), (p : Int), ()), ()))) = true := all_app e320_0 (all_app e320_1 (e320_2))
theorem r321 : (repsW 1).all (fun p => yes (law20_LayPlaces 201 (((3 : Int), (1 : Int), (1 : Int), (p : Int), ()), ()))) = true := all_app e321_0 (all_app e321_1 (e321_2))
theorem r322 : (repsW 1).all (fun p => yes (law20_LayPlaces 201 (((3 : Int), (1 : Int), (2 : Int), (p : Int), ()), ()))) = true := all_app e322_0 (all_app e322_1 (e322_2))
theorem r323 : (repsW 1).all (fun p => yes (law20_LayPlaces 201 (((3 : Int), (1 : Int), (3 : Int), (p : Int), ()), ()))) = true := all_app e323_0 (all_app e323_1 (e323_2))
theorem r330 : (repsW 2).all (fun p => yes (law20_LayPlaces 201 (((3 : Int), (2 : Int), (0 : Int), (p : Int), ()), ()))) = true := all_app e330_0 (all_app e330_1 (all_app e330_2 (all_app e330_3 (all_app e330_4 (all_app e330_5 (all_app e330_6 (all_app e330_7 (e330_8))))))))
theorem r331 : (repsW 2).all (fun p => yes (law20_LayPlaces 201 (((3 : Int), (2 : Int), (1 : Int), (p : Int), ()), ()))) = true := all_app e331_0 (all_app e331_1 (all_app e331_2 (all_app e331_3 (all_app e331_4 (all_app e331_5 (all_app e331_6 (all_app e331_7 (e331_8))))))))
theorem r332 : (repsW 2).all (fun p => yes (law20_LayPlaces 201 (((3 : Int), (2 : Int), (2 : Int), (p : Int), ()), ()))) = true := all_app e332_0 (all_app e332_1 (all_app e332_2 (all_app e332_3 (all_app e332_4 (all_app e332_5 (all_app e332_6 (all_app e332_7 (e332_8))))))))
theorem r333 : (repsW 2).all (fun p => yes (law20_LayPlaces 201 (((3 : Int), (2 : Int), (3 : Int), (p : Int), ()), ()))) = true := all_app e333_0 (all_app e333_1 (all_app e333_2 (all_app e333_3 (all_app e333_4 (all_app e333_5 (all_app e333_6 (all_app e333_7 (e333_8))))))))
theorem s01 : ∀ c : Nat, c < 4 → (repsW 0).all (fun p => yes (law20_LayPlaces 201 (((0 : Int), (0 : Int), (c : Int), (p : Int), ()), ()))) = true
  | 0, _ => r010
  | 1, _ => r011
  | 2, _ => r012
  | 3, _ => r013
  | c + 4, h => absurd h (by omega)
theorem s02 : ∀ c : Nat, c < 4 → (repsW 1).all (fun p => yes (law20_LayPlaces 201 (((0 : Int), (1 : Int), (c : Int), (p : Int), ()), ()))) = true
  | 0, _ => r020
  | 1, _ => r021
  | 2, _ => r022
  | 3, _ => r023
  | c + 4, h => absurd h (by omega)
theorem s03 : ∀ c : Nat, c < 4 → (repsW 2).all (fun p => yes (law20_LayPlaces 201 (((0 : Int), (2 : Int), (c : Int), (p : Int), ()), ()))) = true
  | 0, _ => r030
  | 1, _ => r031
  | 2, _ => r032
  | 3, _ => r033
  | c + 4, h => absurd h (by omega)
theorem t0 : ∀ w : Nat, w < 3 → ∀ c : Nat, c < 4 → (repsW w).all (fun p => yes (law20_LayPlaces 201 (((0 : Int), (w : Int), (c : Int), (p : Int), ()), ()))) = true
  | 0, _ => s01
  | 1, _ => s02
  | 2, _ => s03
  | w + 3, h => absurd h (by omega)
theorem s11 : ∀ c : Nat, c < 4 → (repsW 0).all (fun p => yes (law20_LayPlaces 201 (((1 : Int), (0 : Int), (c : Int), (p : Int), ()), ()))) = true
  | 0, _ => r110
  | 1, _ => r111
  | 2, _ => r112
  | 3, _ => r113
  | c + 4, h => absurd h (by omega)
theorem s12 : ∀ c : Nat, c < 4 → (repsW 1).all (fun p => yes (law20_LayPlaces 201 (((1 : Int), (1 : Int), (c : Int), (p : Int), ()), ()))) = true
  | 0, _ => r120
  | 1, _ => r121
  | 2, _ => r122
  | 3, _ => r123
  | c + 4, h => absurd h (by omega)
theorem s13 : ∀ c : Nat, c < 4 → (repsW 2).all (fun p => yes (law20_LayPlaces 201 (((1 : Int), (2 : Int), (c : Int), (p : Int), ()), ()))) = true
  | 0, _ => r130
  | 1, _ => r131
  | 2, _ => r132
  | 3, _ => r133
  | c + 4, h => absurd h (by omega)
theorem t1 : ∀ w : Nat, w < 3 → ∀ c : Nat, c < 4 → (repsW w).all (fun p => yes (law20_LayPlaces 201 (((1 : Int), (w : Int), (c : Int), (p : Int), ()), ()))) = true
  | 0, _ => s11
  | 1, _ => s12
  | 2, _ => s13
  | w + 3, h => absurd h (by omega)
theorem s21 : ∀ c : Nat, c < 4 → (repsW 0).all (fun p => yes (law20_LayPlaces 201 (((2 : Int), (0 : Int), (c : Int), (p : Int), ()), ()))) = true
  | 0, _ => r210
  | 1, _ => r211
  | 2, _ => r212
  | 3, _ => r213
  | c + 4, h => absurd h (by omega)
theorem s22 : ∀ c : Nat, c < 4 → (repsW 1).all (fun p => yes (law20_LayPlaces 201 (((2 : Int), (1 : Int), (c : Int), (p : Int), ()), ()))) = true
  | 0, _ => r220
  | 1, _ => r221
  | 2, _ => r222
  | 3, _ => r223
  | c + 4, h => absurd h (by omega)
theorem s23 : ∀ c : Nat, c < 4 → (repsW 2).all (fun p => yes (law20_LayPlaces 201 (((2 : Int), (2 : Int), (c : Int), (p : Int), ()), ()))) = true
  | 0, _ => r230
  | 1, _ => r231
  | 2, _ => r232
  | 3, _ => r233
  | c + 4, h => absurd h (by omega)
theorem t2 : ∀ w : Nat, w < 3 → ∀ c : Nat, c < 4 → (repsW w).all (fun p => yes (law20_LayPlaces 201 (((2 : Int), (w : Int), (c : Int), (p : Int), ()), ()))) = true
  | 0, _ => s21
  | 1, _ => s22
  | 2, _ => s23
  | w + 3, h => absurd h (by omega)
theorem s31 : ∀ c : Nat, c < 4 → (repsW 0).all (fun p => yes (law20_LayPlaces 201 (((3 : Int), (0 : Int), (c : Int), (p : Int), ()), ()))) = true
  | 0, _ => r310
  | 1, _ => r311
  | 2, _ => r312
  | 3, _ => r313
  | c + 4, h => absurd h (by omega)
theorem s32 : ∀ c : Nat, c < 4 → (repsW 1).all (fun p => yes (law20_LayPlaces 201 (((3 : Int), (1 : Int), (c : Int), (p : Int), ()), ()))) = true
  | 0, _ => r320
  | 1, _ => r321
  | 2, _ => r322
  | 3, _ => r323
  | c + 4, h => absurd h (by omega)
theorem s33 : ∀ c : Nat, c < 4 → (repsW 2).all (fun p => yes (law20_LayPlaces 201 (((3 : Int), (2 : Int), (c : Int), (p : Int), ()), ()))) = true
  | 0, _ => r330
  | 1, _ => r331
  | 2, _ => r332
  | 3, _ => r333
  | c + 4, h => absurd h (by omega)
theorem t3 : ∀ w : Nat, w < 3 → ∀ c : Nat, c < 4 → (repsW w).all (fun p => yes (law20_LayPlaces 201 (((3 : Int), (w : Int), (c : Int), (p : Int), ()), ()))) = true
  | 0, _ => s31
  | 1, _ => s32
  | 2, _ => s33
  | w + 3, h => absurd h (by omega)
theorem each : ∀ d : Nat, d < 4 → ∀ w : Nat, w < 3 → ∀ c : Nat, c < 4 → (repsW w).all (fun p => yes (law20_LayPlaces 201 (((d : Int), (w : Int), (c : Int), (p : Int), ()), ()))) = true
  | 0, _ => t0
  | 1, _ => t1
  | 2, _ => t2
  | 3, _ => t3
  | d + 4, h => absurd h (by omega)
theorem number_at {n : Nat} (hn : 1 ≤ n) (x m : Int) (hm : 0 < m) (hm1 : m < 1000000) : world_Number n ((x, m, ()), ()) = some ((num x m, ()), ()) := by
  obtain ⟨n, rfl⟩ : ∃ k, n = k + 1 := ⟨n - 1, by omega⟩
  have hb := tmod_b x m hm
  simp only [world_Number]
  rw [if_neg (show ¬ m = 0 by omega)]
  unfold num
  by_cases h : Int.tmod x m < 0
  · rw [if_pos (decide_eq_true h), if_pos h, w64_id (by omega) (by omega)]
  · rw [if_neg (by simpa using h), if_neg h]
def l21_body (n : Nat) (rc : law20_LayPlaces_l21_h.T → Option (OutT law20_LayPlaces_l21_o)) (x1 x2 x3 x4 : Int) (x5 : Bool) (x6 : ByteArray) (x7 x8 : Int) (l9 : List ty0.T) (l10 : List ty7.T) (x13 : Int) : Option (OutT law20_LayPlaces_l21_o) :=
      let v11 : Int := IntKind.i64.wrap (2 * x8)
      if IntKind.u64.wrap v11 < 0 then
        none
      else
        let v12 : Int := shrOp .i64 x4 (IntKind.u64.wrap v11)
          match law20_LayPlaces_c26 n ((x1, x2, x3, x4, x5, (), (), x6, x7, x8, x13, ()), (l9, l10, ())) with
          | some (.inl ((x14, x15, x16, x17, x18, _, _, x19, x20, x21, x22, _), (l23, l24, _))) => (
            if x19.size + (⟨#[105]⟩ : ByteArray).size ≤ 9223372036854775807 then (
              match world_Num n ((x22, ()), ()) with
              | some ((x25, _), _) => (
                if (x19 ++ (⟨#[105]⟩ : ByteArray)).size + x25.size ≤ 9223372036854775807 then (
                  match world_Num n ((x21, ()), ()) with
                  | some ((x26, _), _) => (
                    if (⟨#[110]⟩ : ByteArray).size + x26.size ≤ 9223372036854775807 then (
                      match lay_Size n (((⟨#[110]⟩ : ByteArray) ++ x26, l23, ()), ()) with
                      | some ((((x27, _), (x28, _), _), _), _) => (
                        if !(errNil x28) then
                          some (.inr (.inl ((false, ()), ())))
                        else
                          let v29 : Int := IntKind.i64.wrap (x20 + x16)
                          let v30 : Int := IntKind.i64.wrap (x22 * x27)
                          let v31 : Int := IntKind.i64.wrap (v29 + v30)
                          match lay_At n (((⟨#[110, 48]⟩ : ByteArray), (x19 ++ (⟨#[105]⟩ : ByteArray)) ++ x25, l23, ()), ()) with
                          | some ((((x32, _), (x33, _), _), _), _) => (
                            if !(errNil x33) then
                              some (.inr (.inl ((false, ()), ())))
                            else
                              if x32 != v31 then
                                some (.inr (.inl ((false, ()), ())))
                              else
                                if decide (x32 ≥ (l24.length : Int)) then
                                  some (.inr (.inl ((false, ()), ())))
                                else
                                  if 0 ≤ x32 ∧ x32 < (l24.length : Int) then (
                                    if ((x19 ++ (⟨#[105]⟩ : ByteArray)) ++ x25).size + (⟨#[47, 99, 48]⟩ : ByteArray).size ≤ 9223372036854775807 then (
                                      if !strEq ((rdT ty7 l24 x32).1) (((x19 ++ (⟨#[105]⟩ : ByteArray)) ++ x25) ++ (⟨#[47, 99, 48]⟩ : ByteArray)) then
                                        some (.inr (.inl ((false, ()), ())))
                                      else
                                        let v34 : Int := IntKind.i64.wrap (x21 + 1)
                                        rc ((x14, x15, x16, x17, x18, (), (), (x19 ++ (⟨#[105]⟩ : ByteArray)) ++ x25, v31, v34, ()), (l23, l24, ()))) else none) else none)
                          | none => none)
                      | none => none) else none)
                  | none => none) else none)
              | none => none) else none)
          | some (.inr (_)) => none
          | none => none
/-- What a pick is asked for. -/
def digit (p w i : Int) : Int := num (shrOp .i64 p (IntKind.u64.wrap (IntKind.i64.wrap (2 * i)))) w
theorem l21_pick {n : Nat} (hn : 1 ≤ n) (D w c p r : Int) (hw : 0 < w) (hw1 : w < 1000000) (hD : D < 1000000) (h : ∀ i : Int, 1 ≤ i → i < D → digit p w i = digit r w i) (b : Bool) (l9 l10) : ∀ (k : Nat) (path : ByteArray) (at_ i : Int), 1 ≤ i →
    law20_LayPlaces_l21 n k ((D, w, c, p, b, (), (), path, at_, i, ()), (l9, l10, ())) = law20_LayPlaces_l21 n k ((D, w, c, r, b, (), (), path, at_, i, ()), (l9, l10, ()))
  | 0, path, at_, i, hi => rfl
  | k + 1, path, at_, i, hi => by
    by_cases hc : i < D
    · have hi1 : 1 ≤ IntKind.i64.wrap (i + 1) := by rw [w64_id (by omega) (by omega)]; omega
      have ih := fun path at_ => l21_pick hn D w c p r hw hw1 hD h b l9 l10 k path at_ (IntKind.i64.wrap (i + 1)) hi1
      have hd := h i hi hc
      unfold digit at hd
      have e : ∀ q : Int, law20_LayPlaces_l21 n (k + 1) ((D, w, c, q, b, (), (), path, at_, i, ()), (l9, l10, ())) = l21_body n (law20_LayPlaces_l21 n k) D w c q b path at_ i l9 l10 (num (shrOp .i64 q (IntKind.u64.wrap (IntKind.i64.wrap (2 * i)))) w) := by
        intro q
        rw [law20_LayPlaces_l21]
        rw [if_pos (decide_eq_true hc)]
        dsimp only
        rw [number_at hn _ w hw hw1]
        rfl
      rw [e p, e r, hd]
      unfold l21_body
      dsimp only
      by_cases hu : IntKind.u64.wrap (IntKind.i64.wrap (2 * i)) < 0
      · rw [if_pos hu, if_pos hu]
      · rw [if_neg hu, if_neg hu]
        simp only [law20_LayPlaces_c26]
        by_cases hx : (!strEq path (⟨#[]⟩ : ByteArray)) = true
        · by_cases hs : path.size + (⟨#[47]⟩ : ByteArray).size ≤ 9223372036854775807
          · simp only [hx, if_true, if_pos hs, ih]
          · simp only [hx, if_true, if_neg hs]
        · simp only [if_neg hx, ih]
    · simp only [law20_LayPlaces_l21, decide_eq_false hc, Bool.false_eq_true, if_false]
/-- The first loop hands the pick on. -/
theorem l13_form (n : Nat) (D w c : Int) (b : Bool) (l7 l8 l9) : ∀ (k : Nat) (i : Int), ∃ o : Option (Option _), ∀ p : Int,
    law20_LayPlaces_l13 n k ((D, w, c, p, b, (), (), (), i, ()), (l7, l8, l9, ())) = match o with | none => none | some none => some (.inl ((D, w, c, p, b, (), (), ()), (l7, l8, ()))) | some (some z) => some (.inr z)
  | 0, i => ⟨none, fun p => rfl⟩
  | k + 1, i => by
    obtain ⟨o, ho⟩ := l13_form n D w c b l7 l8 l9 k (IntKind.i64.wrap (i + 1))
    by_cases h1 : decide (i < (l8.length : Int)) = true
    · by_cases h2 : 0 ≤ i ∧ i < (l8.length : Int)
      · rcases hf : lay_Find n (((rdT ty7 l8 i).1, l8, ()), ()) with _ | ⟨⟨⟨⟨a, ⟨⟩⟩, ⟨d, ⟨⟩⟩, ⟨⟩⟩, ⟨⟩⟩, ⟨⟩⟩
        · exact ⟨none, fun p => by simp only [law20_LayPlaces_l13, h1, if_true, if_pos h2, hf]⟩
        · cases d with
          | false => exact ⟨some (some (.inl ((false, ()), ()))), fun p => by simp only [law20_LayPlaces_l13, h1, if_true, if_pos h2, hf]; rfl⟩
          | true =>
            by_cases h3 : (a != i) = true
            · exact ⟨some (some (.inl ((false, ()), ()))), fun p => by simp only [law20_LayPlaces_l13, h1, if_true, if_pos h2, hf, Bool.not_true, Bool.false_eq_true, if_false, h3]⟩
            · by_cases h4 : 0 ≤ i ∧ i < (l9.length : Int)
              · by_cases h5 : (rdT ((.int .i64) : Ty) l9 i != (((rdT ty7 l8 i).2).2)) = true
                · exact ⟨some (some (.inl ((false, ()), ()))), fun p => by simp only [law20_LayPlaces_l13, h1, if_true, if_pos h2, hf, Bool.not_true, Bool.false_eq_true, if_false, if_neg h3, if_pos h4, h5]⟩
                · exact ⟨o, fun p => by simp only [law20_LayPlaces_l13, h1, if_true, if_pos h2, hf, Bool.not_true, Bool.false_eq_true, if_false, if_neg h3, if_pos h4, if_neg h5, ho p]⟩
              · exact ⟨none, fun p => by simp only [law20_LayPlaces_l13, h1, if_true, if_pos h2, hf, Bool.not_true, Bool.false_eq_true, if_false, if_neg h3, if_neg h4]⟩
      · exact ⟨none, fun p => by simp only [law20_LayPlaces_l13, h1, if_true, if_neg h2]⟩
    · exact ⟨some none, fun p => by simp only [law20_LayPlaces_l13, if_neg h1]⟩
theorem law_pick {n : Nat} (hn : 1 ≤ n) (x y z p r : Int) (h : ∀ i : Int, 1 ≤ i → i < 4 → digit p (num y 3 + 1) i = digit r (num y 3 + 1) i) : law20_LayPlaces (n + 1) ((x, y, z, p, ()), ()) = law20_LayPlaces (n + 1) ((num x 4, num y 3, num z 4, r, ()), ()) := by
  have hx := num_range x (show (0 : Int) < 4 by omega)
  have hy := num_range y (show (0 : Int) < 3 by omega)
  have hz := num_range z (show (0 : Int) < 4 by omega)
  have wx : IntKind.i64.wrap (num x 4 + 1) = num x 4 + 1 := w64_id (by omega) (by omega)
  have wy : IntKind.i64.wrap (num y 3 + 1) = num y 3 + 1 := w64_id (by omega) (by omega)
  simp only [law20_LayPlaces, number_at hn x 4 (by omega) (by omega), number_at hn (num x 4) 4 (by omega) (by omega), num_num x (show (0 : Int) < 4 by omega),
    number_at hn y 3 (by omega) (by omega), number_at hn (num y 3) 3 (by omega) (by omega), num_num y (show (0 : Int) < 3 by omega), number_at hn z 4 (by omega) (by omega), number_at hn (num z 4) 4 (by omega) (by omega), num_num z (show (0 : Int) < 4 by omega), wx, wy]
  rcases law20_first n ((), ()) with _ | ⟨⟨x5, ⟨⟩⟩, ⟨⟩⟩
  · rfl
  simp only
  cases x5 with
  | false => rfl
  | true =>
  simp only [Bool.not_true, Bool.false_eq_true, if_false]
  rcases law20_tower n ((num x 4 + 1, num y 3 + 1, IntKind.i64.wrap (num z 4 + 1), ()), ()) with _ | ⟨⟨⟨⟩, ⟨⟩⟩, ⟨l12, ⟨⟩⟩⟩
  · rfl
  simp only
  rcases lay_Of n (((⟨#[110, 48]⟩ : ByteArray), l12, ()), ()) with _ | ⟨⟨⟨⟨⟨⟩, ⟨⟩⟩, ⟨x13, ⟨⟩⟩, ⟨⟩⟩, ⟨⟩⟩, ⟨l14, ⟨⟩⟩⟩
  · rfl
  simp only
  by_cases he : (!(errNil x13)) = true
  · simp only [he, if_true]
  · simp only [if_neg he]
    rcases lay_Init n ((l14, ()), ()) with _ | ⟨⟨⟨⟩, ⟨⟩⟩, ⟨l15, ⟨⟩⟩⟩
    · rfl
    simp only
    obtain ⟨o, ho⟩ := l13_form n (num x 4 + 1) (num y 3 + 1) (IntKind.i64.wrap (num z 4 + 1)) true l12 l14 l15 n 0
    rw [ho p, ho r]
    cases o with
    | none => rfl
    | some o =>
      cases o with
      | some z => rfl
      | none =>
        simp only
        have e := l21_pick hn (num x 4 + 1) (num y 3 + 1) (IntKind.i64.wrap (num z 4 + 1)) p r (by omega) (by omega) (by omega) (fun i h1 h2 => h i h1 (by omega)) true l12 l14 n (⟨#[]⟩ : ByteArray) 0 1 (by omega)
        rw [e]
/-- A pick's digits are those of one of a few. -/
theorem shr_e (p : Int) (i : Nat) (hi : i < 4) : shrOp .i64 p (IntKind.u64.wrap (IntKind.i64.wrap (2 * (i : Int)))) = p / (4 ^ i : Int) := by
  have h : i = 0 ∨ i = 1 ∨ i = 2 ∨ i = 3 := by omega
  rcases h with rfl | rfl | rfl | rfl
  · show p.fdiv _ = _; rw [Int.fdiv_eq_ediv_of_nonneg _ (by decide)]; rfl
  · show p.fdiv _ = _; rw [Int.fdiv_eq_ediv_of_nonneg _ (by decide)]; rfl
  · show p.fdiv _ = _; rw [Int.fdiv_eq_ediv_of_nonneg _ (by decide)]; rfl
  · show p.fdiv _ = _; rw [Int.fdiv_eq_ediv_of_nonneg _ (by decide)]; rfl
theorem num_emod (x : Int) {m : Int} (hm : 0 < m) : num x m = x % m := by
  unfold num
  have h := Int.tmod_eq_emod_of_nonneg (a := x) (b := m)
  by_cases hx : 0 ≤ x
  · rw [Int.tmod_eq_emod_of_nonneg hx, if_neg (by have := Int.emod_nonneg x (show m ≠ 0 by omega); omega)]
  · have h1 := Int.emod_nonneg x (show m ≠ 0 by omega)
    have h2 := Int.emod_lt_of_pos x hm
    have h3 : Int.tmod x m = -(Int.tmod (-x) m) := by rw [Int.neg_tmod, Int.neg_neg]
    have h4 : Int.tmod (-x) m = (-x) % m := Int.tmod_eq_emod_of_nonneg (by omega)
    have h5 := Int.emod_nonneg (-x) (show m ≠ 0 by omega)
    have h6 := Int.emod_lt_of_pos (-x) hm
    have h7 := Int.mul_ediv_add_emod x m
    have h8 := Int.mul_ediv_add_emod (-x) m
    rw [h3, h4]
    by_cases h0 : (-x) % m = 0
    · rw [h0]
      have : m ∣ x := by have := Int.dvd_of_emod_eq_zero h0; exact (Int.dvd_neg).1 this
      rw [Int.emod_eq_zero_of_dvd this]
      rfl
    · rw [if_pos (by omega)]
      have h9 : (-x) % m = m - x % m := by
        have e1 : (-x) = m * (-(x / m) - 1) + (m - x % m) := by rw [Int.mul_sub, Int.mul_neg]; omega
        have hlt : m - x % m < m := by
          rcases Int.lt_or_eq_of_le h1 with h | h
          · omega
          · exfalso
            apply h0
            have : m ∣ x := Int.dvd_of_emod_eq_zero h.symm
            exact Int.emod_eq_zero_of_dvd ((Int.dvd_neg).2 this)
        rw [e1, Int.mul_add_emod_self_left, Int.emod_eq_of_lt (by omega) hlt]
      omega
theorem digit_e (p w : Int) (hw : 0 < w) (i : Nat) (hi : i < 4) : digit p w i = p / (4 ^ i : Int) % w := by
  unfold digit
  rw [shr_e p i hi, num_emod _ hw]
def dig (p : Nat) (w i : Nat) : Nat := p / 4 ^ i % w
theorem cover1 : (List.range 64).all (fun p => reps1.any fun r => dig p 1 1 == dig r.toNat 1 1 && dig p 1 2 == dig r.toNat 1 2 && dig p 1 3 == dig r.toNat 1 3 && decide (0 ≤ r)) = true := by decide +kernel
theorem cover2 : (List.range 128).all (fun p => reps2.any fun r => dig p 2 1 == dig r.toNat 2 1 && dig p 2 2 == dig r.toNat 2 2 && dig p 2 3 == dig r.toNat 2 3 && decide (0 ≤ r)) = true := by decide +kernel
theorem cover3 : (List.range 192).all (fun p => reps3.any fun r => dig p 3 1 == dig r.toNat 3 1 && dig p 3 2 == dig r.toNat 3 2 && dig p 3 3 == dig r.toNat 3 3 && decide (0 ≤ r)) = true := by decide +kernel
theorem cover : ∀ w : Nat, w < 3 → ∀ q : Nat, q < 64 * (w + 1) → ∃ r ∈ repsW w, 0 ≤ r ∧ ∀ i : Nat, 1 ≤ i → i < 4 → dig q (w + 1) i = dig r.toNat (w + 1) i := by
  intro w hw q hq
  have go : ∀ (R : List Int), (R.any fun r => dig q (w + 1) 1 == dig r.toNat (w + 1) 1 && dig q (w + 1) 2 == dig r.toNat (w + 1) 2 && dig q (w + 1) 3 == dig r.toNat (w + 1) 3 && decide (0 ≤ r)) = true → ∃ r ∈ R, 0 ≤ r ∧ ∀ i : Nat, 1 ≤ i → i < 4 → dig q (w + 1) i = dig r.toNat (w + 1) i := by
    intro R hR
    obtain ⟨r, hr, h⟩ := List.any_eq_true.1 hR
    simp only [Bool.and_eq_true, beq_iff_eq, decide_eq_true_eq] at h
    refine ⟨r, hr, h.2, fun i h1 h2 => ?_⟩
    have : i = 1 ∨ i = 2 ∨ i = 3 := by omega
    rcases this with rfl | rfl | rfl
    · exact h.1.1.1
    · exact h.1.1.2
    · exact h.1.2
  have hw' : w = 0 ∨ w = 1 ∨ w = 2 := by omega
  rcases hw' with rfl | rfl | rfl
  · exact go _ (all_range cover1 (i := q) (by omega))
  · exact go _ (all_range cover2 (i := q) (by omega))
  · exact go _ (all_range cover3 (i := q) (by omega))
theorem LayPlaces : law20_LayPlaces.Pure := by
  intro x y z p _ _ _ _
  obtain ⟨p, rfl⟩ : ∃ q : Int, q = p := ⟨p, rfl⟩
  refine ⟨201, ?_⟩
  obtain ⟨i, hi, he⟩ := num_nat x (show (0 : Int) < 4 by omega)
  obtain ⟨j, hj, hf⟩ := num_nat y (show (0 : Int) < 3 by omega)
  obtain ⟨k, hk, hg⟩ := num_nat z (show (0 : Int) < 4 by omega)
  have hq0 : 0 ≤ p % (64 * ((j : Int) + 1)) := Int.emod_nonneg _ (by omega)
  have hq1 : p % (64 * ((j : Int) + 1)) < 64 * ((j : Int) + 1) := Int.emod_lt_of_pos _ (by omega)
  obtain ⟨r, hr, hr0, hd⟩ := cover j (by omega) (p % (64 * ((j : Int) + 1))).toNat (by omega)
  have h := law_pick (n := 200) (by omega) x y z p r (fun a h1 h2 => by
    obtain ⟨a, rfl⟩ := Int.eq_ofNat_of_zero_le (show (0 : Int) ≤ a by omega)
    rw [hf, digit_e _ _ (by omega) a (by omega), digit_e _ _ (by omega) a (by omega)]
    have hd := hd a (by omega) (by omega)
    unfold dig at hd
    have e1 : r / (4 ^ a : Int) % ((j : Int) + 1) = ((r.toNat / 4 ^ a % (j + 1) : Nat) : Int) := by
      push_cast
      rw [Int.toNat_of_nonneg hr0]
    have e2 : p % (64 * ((j : Int) + 1)) / (4 ^ a : Int) % ((j : Int) + 1) = (((p % (64 * ((j : Int) + 1))).toNat / 4 ^ a % (j + 1) : Nat) : Int) := by
      push_cast
      rw [Int.toNat_of_nonneg hq0]
    rw [e1, ← hd, ← e2]
    have e3 := Int.mul_ediv_add_emod p (64 * ((j : Int) + 1))
    have ha : a = 1 ∨ a = 2 ∨ a = 3 := by omega
    generalize hm : p % (64 * ((j : Int) + 1)) = m at *
    generalize hqq : p / (64 * ((j : Int) + 1)) = q at *
    rcases ha with rfl | rfl | rfl
    · rw [show ((4 : Int) ^ 1) = 4 from rfl]
      have e4 : p = m + 4 * (((j : Int) + 1) * (16 * q)) := by rw [← e3, Int.mul_assoc, Int.mul_left_comm ((j : Int) + 1) 16 q]; generalize ((j : Int) + 1) * q = z; omega
      rw [e4, Int.add_mul_ediv_left _ _ (by decide), Int.add_mul_emod_self_left]
    · rw [show ((4 : Int) ^ 2) = 16 from rfl]
      have e4 : p = m + 16 * (((j : Int) + 1) * (4 * q)) := by rw [← e3, Int.mul_assoc, Int.mul_left_comm ((j : Int) + 1) 4 q]; generalize ((j : Int) + 1) * q = z; omega
      rw [e4, Int.add_mul_ediv_left _ _ (by decide), Int.add_mul_emod_self_left]
    · rw [show ((4 : Int) ^ 3) = 64 from rfl]
      have e4 : p = m + 64 * (((j : Int) + 1) * (q)) := by rw [← e3, Int.mul_assoc]; generalize ((j : Int) + 1) * q = z; omega
      rw [e4, Int.add_mul_ediv_left _ _ (by decide), Int.add_mul_emod_self_left])
  rw [he, hf, hg] at h
  refine h.trans (of_yes ?_)
  exact List.all_eq_true.1 (each i (by omega) j (by omega) k (by omega)) r hr
end Go.Proofs.YtkoeofaeigchpaaDoor.Pure
