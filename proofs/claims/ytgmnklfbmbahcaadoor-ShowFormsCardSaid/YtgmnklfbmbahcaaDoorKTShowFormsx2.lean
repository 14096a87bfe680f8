/- By a program of this session (kprint.py) over the printer: functions of the code as plain Lean functions, and the walks that say so. -/
import Derived.Test.YtgmnklfbmbahcaaDoorKTShowFormsx0
import Derived.Test.YtgmnklfbmbahcaaDoorKTShowFormsx1
namespace Go.Proofs.YtgmnklfbmbahcaaDoor.KTShowForms
open Go.RowKit Go.Proofs.YtgmnklfbmbahcaaDoorW.PrintWords Go.Proofs.YtgmnklfbmbahcaaDoorW.PrintLast Go.Proofs.YtgmnklfbmbahcaaDoorW.PrintMore
attribute [local go_sem] max2_int min2_int max_two min_two max_three min_three max_four min_four   -- for this text's walks alone
set_option linter.unusedVariables false
set_option linter.unusedSimpArgs false

/-! ### show_Expr: function 9 -/
def show_Expr.f : Nat → Int → Int → Int → ByteArray → List (S26) → Option (ByteArray)
  | 0, _, _, _, _, _ => none
  | k + 1, a0_0, a0_1, a0_2, a0_3, l0_4 => (show_few.f k a0_0).bind fun t110 => (if (l0_4.length : Int) < t110 then (some (⟨#[]⟩ : ByteArray)) else (if a0_0 = 1 then ((strconv_FormatInt.f a0_2 10).bind fun t111 => (some t111)) else (if a0_0 = 2 then ((strconv_FormatBool_25.f (a0_2 == 1)).bind fun t112 => (some t112)) else (if a0_0 = 3 then (some a0_3) else (if a0_0 = 4 then (if 0 < (l0_4.length : Int) then ((show_in.f (show_Expr.f k) k ((rd_T26 l0_4 0).f0) ((rd_T26 l0_4 0).f1) ((rd_T26 l0_4 0).f2) ((rd_T26 l0_4 0).f3) ((rd_T26 l0_4 0).f4)).bind fun t114 => (if 1 + t114.size ≤ 9223372036854775807 then (some ((⟨#[45]⟩ : ByteArray) ++ t114)) else (none))) else (none)) else (if a0_0 = 5 then (if 0 < (l0_4.length : Int) then ((show_in.f (show_Expr.f k) k ((rd_T26 l0_4 0).f0) ((rd_T26 l0_4 0).f1) ((rd_T26 l0_4 0).f2) ((rd_T26 l0_4 0).f3) ((rd_T26 l0_4 0).f4)).bind fun t116 => (if 4 + t116.size ≤ 9223372036854775807 then (some ((⟨#[110, 111, 116, 32]⟩ : ByteArray) ++ t116)) else (none))) else (none)) else (if a0_0 = 23 then (if 0 < (l0_4.length : Int) then ((show_in.f (show_Expr.f k) k ((rd_T26 l0_4 0).f0) ((rd_T26 l0_4 0).f1) ((rd_T26 l0_4 0).f2) ((rd_T26 l0_4 0).f3) ((rd_T26 l0_4 0).f4)).bind fun t118 => (if 4 + t118.size ≤ 9223372036854775807 then (some ((⟨#[112, 114, 101, 32]⟩ : ByteArray) ++ t118)) else (none))) else (none)) else (if a0_0 = 20 then (if 0 < (l0_4.length : Int) then ((show_in.f (show_Expr.f k) k ((rd_T26 l0_4 0).f0) ((rd_T26 l0_4 0).f1) ((rd_T26 l0_4 0).f2) ((rd_T26 l0_4 0).f3) ((rd_T26 l0_4 0).f4)).bind fun t120 => (if 3 + t120.size ≤ 9223372036854775807 then (if ((⟨#[105, 102, 32]⟩ : ByteArray) ++ t120).size + 6 ≤ 9223372036854775807 then (if 1 < (l0_4.length : Int) then ((show_in.f (show_Expr.f k) k ((rd_T26 l0_4 1).f0) ((rd_T26 l0_4 1).f1) ((rd_T26 l0_4 1).f2) ((rd_T26 l0_4 1).f3) ((rd_T26 l0_4 1).f4)).bind fun t122 => (if (((⟨#[105, 102, 32]⟩ : ByteArray) ++ t120) ++ (⟨#[32, 116, 104, 101, 110, 32]⟩ : ByteArray)).size + t122.size ≤ 9223372036854775807 then (if ((((⟨#[105, 102, 32]⟩ : ByteArray) ++ t120) ++ (⟨#[32, 116, 104, 101, 110, 32]⟩ : ByteArray)) ++ t122).size + 6 ≤ 9223372036854775807 then (if 2 < (l0_4.length : Int) then ((show_in.f (show_Expr.f k) k ((rd_T26 l0_4 2).f0) ((rd_T26 l0_4 2).f1) ((rd_T26 l0_4 2).f2) ((rd_T26 l0_4 2).f3) ((rd_T26 l0_4 2).f4)).bind fun t124 => (if (((((⟨#[105, 102, 32]⟩ : ByteArray) ++ t120) ++ (⟨#[32, 116, 104, 101, 110, 32]⟩ : ByteArray)) ++ t122) ++ (⟨#[32, 101, 108, 115, 101, 32]⟩ : ByteArray)).size + t124.size ≤ 9223372036854775807 then (some ((((((⟨#[105, 102, 32]⟩ : ByteArray) ++ t120) ++ (⟨#[32, 116, 104, 101, 110, 32]⟩ : ByteArray)) ++ t122) ++ (⟨#[32, 101, 108, 115, 101, 32]⟩ : ByteArray)) ++ t124)) else (none))) else (none)) else (none)) else (none))) else (none)) else (none)) else (none))) else (none)) else (if a0_0 = 24 then (if 0 < (l0_4.length : Int) then ((show_in.f (show_Expr.f k) k ((rd_T26 l0_4 0).f0) ((rd_T26 l0_4 0).f1) ((rd_T26 l0_4 0).f2) ((rd_T26 l0_4 0).f3) ((rd_T26 l0_4 0).f4)).bind fun t126 => ((show_side.f a0_3 (a0_2 == 1)).bind fun t127 => (if t126.size + t127.size ≤ 9223372036854775807 then (some (t126 ++ t127)) else (none)))) else (none)) else (if a0_0 = 25 then (if 6 + a0_3.size ≤ 9223372036854775807 then (if ((⟨#[109, 101, 114, 103, 101, 40]⟩ : ByteArray) ++ a0_3).size + 2 ≤ 9223372036854775807 then (if 0 < (l0_4.length : Int) then ((show_Expr.f k ((rd_T26 l0_4 0).f0) ((rd_T26 l0_4 0).f1) ((rd_T26 l0_4 0).f2) ((rd_T26 l0_4 0).f3) ((rd_T26 l0_4 0).f4)).bind fun t129 => (if (((⟨#[109, 101, 114, 103, 101, 40]⟩ : ByteArray) ++ a0_3) ++ (⟨#[44, 32]⟩ : ByteArray)).size + t129.size ≤ 9223372036854775807 then (if ((((⟨#[109, 101, 114, 103, 101, 40]⟩ : ByteArray) ++ a0_3) ++ (⟨#[44, 32]⟩ : ByteArray)) ++ t129).size + 2 ≤ 9223372036854775807 then (if 1 < (l0_4.length : Int) then ((show_Expr.f k ((rd_T26 l0_4 1).f0) ((rd_T26 l0_4 1).f1) ((rd_T26 l0_4 1).f2) ((rd_T26 l0_4 1).f3) ((rd_T26 l0_4 1).f4)).bind fun t131 => (if (((((⟨#[109, 101, 114, 103, 101, 40]⟩ : ByteArray) ++ a0_3) ++ (⟨#[44, 32]⟩ : ByteArray)) ++ t129) ++ (⟨#[44, 32]⟩ : ByteArray)).size + t131.size ≤ 9223372036854775807 then (if ((((((⟨#[109, 101, 114, 103, 101, 40]⟩ : ByteArray) ++ a0_3) ++ (⟨#[44, 32]⟩ : ByteArray)) ++ t129) ++ (⟨#[44, 32]⟩ : ByteArray)) ++ t131).size + 1 ≤ 9223372036854775807 then (some (((((((⟨#[109, 101, 114, 103, 101, 40]⟩ : ByteArray) ++ a0_3) ++ (⟨#[44, 32]⟩ : ByteArray)) ++ t129) ++ (⟨#[44, 32]⟩ : ByteArray)) ++ t131) ++ (⟨#[41]⟩ : ByteArray))) else (none)) else (none))) else (none)) else (none)) else (none))) else (none)) else (none)) else (none)) else (if 0 < (l0_4.length : Int) then ((show_in.f (show_Expr.f k) k ((rd_T26 l0_4 0).f0) ((rd_T26 l0_4 0).f1) ((rd_T26 l0_4 0).f2) ((rd_T26 l0_4 0).f3) ((rd_T26 l0_4 0).f4)).bind fun t133 => (if t133.size + 1 ≤ 9223372036854775807 then ((show_Sign.f k a0_0).bind fun t134 => (if (t133 ++ (⟨#[32]⟩ : ByteArray)).size + t134.size ≤ 9223372036854775807 then (if ((t133 ++ (⟨#[32]⟩ : ByteArray)) ++ t134).size + 1 ≤ 9223372036854775807 then (if 1 < (l0_4.length : Int) then ((show_in.f (show_Expr.f k) k ((rd_T26 l0_4 1).f0) ((rd_T26 l0_4 1).f1) ((rd_T26 l0_4 1).f2) ((rd_T26 l0_4 1).f3) ((rd_T26 l0_4 1).f4)).bind fun t136 => (if (((t133 ++ (⟨#[32]⟩ : ByteArray)) ++ t134) ++ (⟨#[32]⟩ : ByteArray)).size + t136.size ≤ 9223372036854775807 then (some ((((t133 ++ (⟨#[32]⟩ : ByteArray)) ++ t134) ++ (⟨#[32]⟩ : ByteArray)) ++ t136)) else (none))) else (none)) else (none)) else (none))) else (none))) else (none))))))))))))
def show_Expr.T17 : Bool × List (List Nat × List Nat) := (true, [([], []), ([0], [0]), ([1], [1]), ([2], [2]), ([3], [3]), ([4], [4]), ([5], [5]), ([], []), ([7], [7]), ([8], [8]), ([9], [9]), ([10, 4], [10]), ([6, 11], [6, 11]), ([12], [12]), ([], []), ([14], [14]), ([15], [15]), ([16], [16]), ([17, 11], [17]), ([13, 18], [13, 18]), ([19, 18, 0, 1, 2, 3, 4, 5, 6, 7, 8, 9, 10, 11, 12, 13, 14, 15, 16, 17, 18, 19], [19])])
def show_Expr.B17 : List Nat := [0, 1, 3, 7, 15, 31, 63, 0, 128, 384, 896, 1951, 4095, 8191, 0, 16384, 49152, 114688, 249759, 524287, 1048575]
theorem show_Expr.tab17 : rtab .any (opsOf Tryd.f9 17) = show_Expr.T17 := by kernel_rfl
theorem show_Expr.bits17 : waitsOk show_Expr.T17.2 show_Expr.B17 = true := by kernel_rfl
def show_Expr.T19 : Bool × List (List Nat × List Nat) := (true, [([], []), ([0], [0]), ([1], [1]), ([2], [2]), ([3], [3]), ([], []), ([5], [5]), ([], []), ([7], [7]), ([8], [8]), ([6, 9, 4], [6, 9]), ([4, 10], [4, 10]), ([11, 10, 0, 1, 2, 3, 4, 5, 6, 7, 8, 9, 10, 11], [11])])
def show_Expr.B19 : List Nat := [0, 1, 3, 7, 15, 0, 32, 0, 128, 384, 1023, 2047, 4095]
theorem show_Expr.tab19 : rtab .any (opsOf Tryd.f9 19) = show_Expr.T19 := by kernel_rfl
theorem show_Expr.bits19 : waitsOk show_Expr.T19.2 show_Expr.B19 = true := by kernel_rfl
def show_Expr.T21 : Bool × List (List Nat × List Nat) := (true, [([], []), ([0], [0]), ([1], [1]), ([2], [2]), ([], []), ([4], [4]), ([5], [5]), ([6], [6]), ([7], [7]), ([3, 8], [3, 8]), ([9], [9]), ([], []), ([11], [11]), ([12], [12]), ([13], [13]), ([14, 8], [14]), ([10, 15], [10, 15]), ([16], [16]), ([17, 15, 0, 1, 2, 3, 4, 5, 6, 7, 8, 9, 10, 11, 12, 13, 14, 15, 16, 17], [17])])
def show_Expr.B21 : List Nat := [0, 1, 3, 7, 0, 16, 48, 112, 240, 511, 1023, 0, 2048, 6144, 14336, 31216, 65535, 131071, 262143]
theorem show_Expr.tab21 : rtab .any (opsOf Tryd.f9 21) = show_Expr.T21 := by kernel_rfl
theorem show_Expr.bits21 : waitsOk show_Expr.T21.2 show_Expr.B21 = true := by kernel_rfl
def show_Expr.T22 : Bool × List (List Nat × List Nat) := (true, [([], []), ([0], [0]), ([1], [1]), ([2], [2]), ([3], [3]), ([4], [4]), ([], []), ([6], [6]), ([7, 4], [7]), ([5, 8], [5, 8]), ([9], [9]), ([], []), ([11], [11]), ([12], [12]), ([13], [13]), ([14, 8], [14]), ([10, 15], [10, 15]), ([16, 15, 0, 1, 2, 3, 4, 5, 6, 7, 8, 9, 10, 11, 12, 13, 14, 15, 16], [16])])
def show_Expr.B22 : List Nat := [0, 1, 3, 7, 15, 31, 0, 64, 223, 511, 1023, 0, 2048, 6144, 14336, 31199, 65535, 131071]
theorem show_Expr.tab22 : rtab .any (opsOf Tryd.f9 22) = show_Expr.T22 := by kernel_rfl
theorem show_Expr.bits22 : waitsOk show_Expr.T22.2 show_Expr.B22 = true := by kernel_rfl
set_option maxHeartbeats 8000000 in
set_option maxRecDepth 100000 in
theorem show_Expr.calls [Sent] (k : Nat) : ∀ (a0_0 : Int) (a0_1 : Int) (a0_2 : Int) (a0_3 : ByteArray) (A0_4 : Option Addr) (c0_4 : Nat) (l0_4 : List (S26)) (r : ByteArray) (w : World) (hr0_4 : Kd.C k26 w A0_4 l0_4.length l0_4) (hc0_4 : l0_4.length ≤ c0_4) (hG : GlobW w) (h : show_Expr.f k a0_0 a0_1 a0_2 a0_3 l0_4 = some r),
    Calls Tryd.prog 9 #[.agg #[.int .i64 a0_0, .int .i64 a0_1, .int .i64 a0_2, .string a0_3, .slice A0_4 l0_4.length c0_4]] w fun e w' => e = .returned (.string r) ∧ Below w.heap.size w w' := by
  induction k using Nat.strongRecOn with
  | _ k ih =>
  intro a0_0 a0_1 a0_2 a0_3 A0_4 c0_4 l0_4 r w hr0_4 hc0_4 hG h
  cases k with
  | zero => exact absurd h (by simp [show_Expr.f])
  | succ k =>
  simp only [show_Expr.f] at h
  have hu26 := Tryd.underlying26
  have HR0_4 := Aside0.mk hr0_4
  have HC0_4 := Aside0.mk hc0_4
  clear hr0_4 hc0_4
  have HB := Aside0.mk (Below.refl w.heap.size w)
  have HG := Aside0.mk hG
  clear hG
  have H : ((show_few.f k a0_0).bind fun t110 => (if (l0_4.length : Int) < t110 then (some (⟨#[]⟩ : ByteArray)) else (if a0_0 = 1 then ((strconv_FormatInt.f a0_2 10).bind fun t111 => (some t111)) else (if a0_0 = 2 then ((strconv_FormatBool_25.f (a0_2 == 1)).bind fun t112 => (some t112)) else (if a0_0 = 3 then (some a0_3) else (if a0_0 = 4 then (if 0 < (l0_4.length : Int) then ((show_in.f (show_Expr.f k) k ((rd_T26 l0_4 0).f0) ((rd_T26 l0_4 0).f1) ((rd_T26 l0_4 0).f2) ((rd_T26 l0_4 0).f3) ((rd_T26 l0_4 0).f4)).bind fun t114 => (if 1 + t114.size ≤ 9223372036854775807 then (some ((⟨#[45]⟩ : ByteArray) ++ t114)) else (none))) else (none)) else (if a0_0 = 5 then (if 0 < (l0_4.length : Int) then ((show_in.f (show_Expr.f k) k ((rd_T26 l0_4 0).f0) ((rd_T26 l0_4 0).f1) ((rd_T26 l0_4 0).f2) ((rd_T26 l0_4 0).f3) ((rd_T26 l0_4 0).f4)).bind fun t116 => (if 4 + t116.size ≤ 9223372036854775807 then (some ((⟨#[110, 111, 116, 32]⟩ : ByteArray) ++ t116)) else (none))) else (none)) else (if a0_0 = 23 then (if 0 < (l0_4.length : Int) then ((show_in.f (show_Expr.f k) k ((rd_T26 l0_4 0).f0) ((rd_T26 l0_4 0).f1) ((rd_T26 l0_4 0).f2) ((rd_T26 l0_4 0).f3) ((rd_T26 l0_4 0).f4)).bind fun t118 => (if 4 + t118.size ≤ 9223372036854775807 then (some ((⟨#[112, 114, 101, 32]⟩ : ByteArray) ++ t118)) else (none))) else (none)) else (if a0_0 = 20 then (if 0 < (l0_4.length : Int) then ((show_in.f (show_Expr.f k) k ((rd_T26 l0_4 0).f0) ((rd_T26 l0_4 0).f1) ((rd_T26 l0_4 0).f2) ((rd_T26 l0_4 0).f3) ((rd_T26 l0_4 0).f4)).bind fun t120 => (if 3 + t120.size ≤ 9223372036854775807 then (if ((⟨#[105, 102, 32]⟩ : ByteArray) ++ t120).size + 6 ≤ 9223372036854775807 then (if 1 < (l0_4.length : Int) then ((show_in.f (show_Expr.f k) k ((rd_T26 l0_4 1).f0) ((rd_T26 l0_4 1).f1) ((rd_T26 l0_4 1).f2) ((rd_T26 l0_4 1).f3) ((rd_T26 l0_4 1).f4)).bind fun t122 => (if (((⟨#[105, 102, 32]⟩ : ByteArray) ++ t120) ++ (⟨#[32, 116, 104, 101, 110, 32]⟩ : ByteArray)).size + t122.size ≤ 9223372036854775807 then (if ((((⟨#[105, 102, 32]⟩ : ByteArray) ++ t120) ++ (⟨#[32, 116, 104, 101, 110, 32]⟩ : ByteArray)) ++ t122).size + 6 ≤ 9223372036854775807 then (if 2 < (l0_4.length : Int) then ((show_in.f (show_Expr.f k) k ((rd_T26 l0_4 2).f0) ((rd_T26 l0_4 2).f1) ((rd_T26 l0_4 2).f2) ((rd_T26 l0_4 2).f3) ((rd_T26 l0_4 2).f4)).bind fun t124 => (if (((((⟨#[105, 102, 32]⟩ : ByteArray) ++ t120) ++ (⟨#[32, 116, 104, 101, 110, 32]⟩ : ByteArray)) ++ t122) ++ (⟨#[32, 101, 108, 115, 101, 32]⟩ : ByteArray)).size + t124.size ≤ 9223372036854775807 then (some ((((((⟨#[105, 102, 32]⟩ : ByteArray) ++ t120) ++ (⟨#[32, 116, 104, 101, 110, 32]⟩ : ByteArray)) ++ t122) ++ (⟨#[32, 101, 108, 115, 101, 32]⟩ : ByteArray)) ++ t124)) else (none))) else (none)) else (none)) else (none))) else (none)) else (none)) else (none))) else (none)) else (if a0_0 = 24 then (if 0 < (l0_4.length : Int) then ((show_in.f (show_Expr.f k) k ((rd_T26 l0_4 0).f0) ((rd_T26 l0_4 0).f1) ((rd_T26 l0_4 0).f2) ((rd_T26 l0_4 0).f3) ((rd_T26 l0_4 0).f4)).bind fun t126 => ((show_side.f a0_3 (a0_2 == 1)).bind fun t127 => (if t126.size + t127.size ≤ 9223372036854775807 then (some (t126 ++ t127)) else (none)))) else (none)) else (if a0_0 = 25 then (if 6 + a0_3.size ≤ 9223372036854775807 then (if ((⟨#[109, 101, 114, 103, 101, 40]⟩ : ByteArray) ++ a0_3).size + 2 ≤ 9223372036854775807 then (if 0 < (l0_4.length : Int) then ((show_Expr.f k ((rd_T26 l0_4 0).f0) ((rd_T26 l0_4 0).f1) ((rd_T26 l0_4 0).f2) ((rd_T26 l0_4 0).f3) ((rd_T26 l0_4 0).f4)).bind fun t129 => (if (((⟨#[109, 101, 114, 103, 101, 40]⟩ : ByteArray) ++ a0_3) ++ (⟨#[44, 32]⟩ : ByteArray)).size + t129.size ≤ 9223372036854775807 then (if ((((⟨#[109, 101, 114, 103, 101, 40]⟩ : ByteArray) ++ a0_3) ++ (⟨#[44, 32]⟩ : ByteArray)) ++ t129).size + 2 ≤ 9223372036854775807 then (if 1 < (l0_4.length : Int) then ((show_Expr.f k ((rd_T26 l0_4 1).f0) ((rd_T26 l0_4 1).f1) ((rd_T26 l0_4 1).f2) ((rd_T26 l0_4 1).f3) ((rd_T26 l0_4 1).f4)).bind fun t131 => (if (((((⟨#[109, 101, 114, 103, 101, 40]⟩ : ByteArray) ++ a0_3) ++ (⟨#[44, 32]⟩ : ByteArray)) ++ t129) ++ (⟨#[44, 32]⟩ : ByteArray)).size + t131.size ≤ 9223372036854775807 then (if ((((((⟨#[109, 101, 114, 103, 101, 40]⟩ : ByteArray) ++ a0_3) ++ (⟨#[44, 32]⟩ : ByteArray)) ++ t129) ++ (⟨#[44, 32]⟩ : ByteArray)) ++ t131).size + 1 ≤ 9223372036854775807 then (some (((((((⟨#[109, 101, 114, 103, 101, 40]⟩ : ByteArray) ++ a0_3) ++ (⟨#[44, 32]⟩ : ByteArray)) ++ t129) ++ (⟨#[44, 32]⟩ : ByteArray)) ++ t131) ++ (⟨#[41]⟩ : ByteArray))) else (none)) else (none))) else (none)) else (none)) else (none))) else (none)) else (none)) else (none)) else (if 0 < (l0_4.length : Int) then ((show_in.f (show_Expr.f k) k ((rd_T26 l0_4 0).f0) ((rd_T26 l0_4 0).f1) ((rd_T26 l0_4 0).f2) ((rd_T26 l0_4 0).f3) ((rd_T26 l0_4 0).f4)).bind fun t133 => (if t133.size + 1 ≤ 9223372036854775807 then ((show_Sign.f k a0_0).bind fun t134 => (if (t133 ++ (⟨#[32]⟩ : ByteArray)).size + t134.size ≤ 9223372036854775807 then (if ((t133 ++ (⟨#[32]⟩ : ByteArray)) ++ t134).size + 1 ≤ 9223372036854775807 then (if 1 < (l0_4.length : Int) then ((show_in.f (show_Expr.f k) k ((rd_T26 l0_4 1).f0) ((rd_T26 l0_4 1).f1) ((rd_T26 l0_4 1).f2) ((rd_T26 l0_4 1).f3) ((rd_T26 l0_4 1).f4)).bind fun t136 => (if (((t133 ++ (⟨#[32]⟩ : ByteArray)) ++ t134) ++ (⟨#[32]⟩ : ByteArray)).size + t136.size ≤ 9223372036854775807 then (some ((((t133 ++ (⟨#[32]⟩ : ByteArray)) ++ t134) ++ (⟨#[32]⟩ : ByteArray)) ++ t136)) else (none))) else (none)) else (none)) else (none))) else (none))) else (none))))))))))))) = some r := h
  clear h
  replace H := Option.bind_eq_some_iff.mp H
  obtain ⟨t110, A20, H⟩ := H
  replace H : (if (l0_4.length : Int) < t110 then (some (⟨#[]⟩ : ByteArray)) else (if a0_0 = 1 then ((strconv_FormatInt.f a0_2 10).bind fun t111 => (some t111)) else (if a0_0 = 2 then ((strconv_FormatBool_25.f (a0_2 == 1)).bind fun t112 => (some t112)) else (if a0_0 = 3 then (some a0_3) else (if a0_0 = 4 then (if 0 < (l0_4.length : Int) then ((show_in.f (show_Expr.f k) k ((rd_T26 l0_4 0).f0) ((rd_T26 l0_4 0).f1) ((rd_T26 l0_4 0).f2) ((rd_T26 l0_4 0).f3) ((rd_T26 l0_4 0).f4)).bind fun t114 => (if 1 + t114.size ≤ 9223372036854775807 then (some ((⟨#[45]⟩ : ByteArray) ++ t114)) else (none))) else (none)) else (if a0_0 = 5 then (if 0 < (l0_4.length : Int) then ((show_in.f (show_Expr.f k) k ((rd_T26 l0_4 0).f0) ((rd_T26 l0_4 0).f1) ((rd_T26 l0_4 0).f2) ((rd_T26 l0_4 0).f3) ((rd_T26 l0_4 0).f4)).bind fun t116 => (if 4 + t116.size ≤ 9223372036854775807 then (some ((⟨#[110, 111, 116, 32]⟩ : ByteArray) ++ t116)) else (none))) else (none)) else (if a0_0 = 23 then (if 0 < (l0_4.length : Int) then ((show_in.f (show_Expr.f k) k ((rd_T26 l0_4 0).f0) ((rd_T26 l0_4 0).f1) ((rd_T26 l0_4 0).f2) ((rd_T26 l0_4 0).f3) ((rd_T26 l0_4 0).f4)).bind fun t118 => (if 4 + t118.size ≤ 9223372036854775807 then (some ((⟨#[112, 114, 101, 32]⟩ : ByteArray) ++ t118)) else (none))) else (none)) else (if a0_0 = 20 then (if 0 < (l0_4.length : Int) then ((show_in.f (show_Expr.f k) k ((rd_T26 l0_4 0).f0) ((rd_T26 l0_4 0).f1) ((rd_T26 l0_4 0).f2) ((rd_T26 l0_4 0).f3) ((rd_T26 l0_4 0).f4)).bind fun t120 => (if 3 + t120.size ≤ 9223372036854775807 then (if ((⟨#[105, 102, 32]⟩ : ByteArray) ++ t120).size + 6 ≤ 9223372036854775807 then (if 1 < (l0_4.length : Int) then ((show_in.f (show_Expr.f k) k ((rd_T26 l0_4 1).f0) ((rd_T26 l0_4 1).f1) ((rd_T26 l0_4 1).f2) ((rd_T26 l0_4 1).f3) ((rd_T26 l0_4 1).f4)).bind fun t122 => (if (((⟨#[105, 102, 32]⟩ : ByteArray) ++ t120) ++ (⟨#[32, 116, 104, 101, 110, 32]⟩ : ByteArray)).size + t122.size ≤ 9223372036854775807 then (if ((((⟨#[105, 102, 32]⟩ : ByteArray) ++ t120) ++ (⟨#[32, 116, 104, 101, 110, 32]⟩ : ByteArray)) ++ t122).size + 6 ≤ 9223372036854775807 then (if 2 < (l0_4.length : Int) then ((show_in.f (show_Expr.f k) k ((rd_T26 l0_4 2).f0) ((rd_T26 l0_4 2).f1) ((rd_T26 l0_4 2).f2) ((rd_T26 l0_4 2).f3) ((rd_T26 l0_4 2).f4)).bind fun t124 => (if (((((⟨#[105, 102, 32]⟩ : ByteArray) ++ t120) ++ (⟨#[32, 116, 104, 101, 110, 32]⟩ : ByteArray)) ++ t122) ++ (⟨#[32, 101, 108, 115, 101, 32]⟩ : ByteArray)).size + t124.size ≤ 9223372036854775807 then (some ((((((⟨#[105, 102, 32]⟩ : ByteArray) ++ t120) ++ (⟨#[32, 116, 104, 101, 110, 32]⟩ : ByteArray)) ++ t122) ++ (⟨#[32, 101, 108, 115, 101, 32]⟩ : ByteArray)) ++ t124)) else (none))) else (none)) else (none)) else (none))) else (none)) else (none)) else (none))) else (none)) else (if a0_0 = 24 then (if 0 < (l0_4.length : Int) then ((show_in.f (show_Expr.f k) k ((rd_T26 l0_4 0).f0) ((rd_T26 l0_4 0).f1) ((rd_T26 l0_4 0).f2) ((rd_T26 l0_4 0).f3) ((rd_T26 l0_4 0).f4)).bind fun t126 => ((show_side.f a0_3 (a0_2 == 1)).bind fun t127 => (if t126.size + t127.size ≤ 9223372036854775807 then (some (t126 ++ t127)) else (none)))) else (none)) else (if a0_0 = 25 then (if 6 + a0_3.size ≤ 9223372036854775807 then (if ((⟨#[109, 101, 114, 103, 101, 40]⟩ : ByteArray) ++ a0_3).size + 2 ≤ 9223372036854775807 then (if 0 < (l0_4.length : Int) then ((show_Expr.f k ((rd_T26 l0_4 0).f0) ((rd_T26 l0_4 0).f1) ((rd_T26 l0_4 0).f2) ((rd_T26 l0_4 0).f3) ((rd_T26 l0_4 0).f4)).bind fun t129 => (if (((⟨#[109, 101, 114, 103, 101, 40]⟩ : ByteArray) ++ a0_3) ++ (⟨#[44, 32]⟩ : ByteArray)).size + t129.size ≤ 9223372036854775807 then (if ((((⟨#[109, 101, 114, 103, 101, 40]⟩ : ByteArray) ++ a0_3) ++ (⟨#[44, 32]⟩ : ByteArray)) ++ t129).size + 2 ≤ 9223372036854775807 then (if 1 < (l0_4.length : Int) then ((show_Expr.f k ((rd_T26 l0_4 1).f0) ((rd_T26 l0_4 1).f1) ((rd_T26 l0_4 1).f2) ((rd_T26 l0_4 1).f3) ((rd_T26 l0_4 1).f4)).bind fun t131 => (if (((((⟨#[109, 101, 114, 103, 101, 40]⟩ : ByteArray) ++ a0_3) ++ (⟨#[44, 32]⟩ : ByteArray)) ++ t129) ++ (⟨#[44, 32]⟩ : ByteArray)).size + t131.size ≤ 9223372036854775807 then (if ((((((⟨#[109, 101, 114, 103, 101, 40]⟩ : ByteArray) ++ a0_3) ++ (⟨#[44, 32]⟩ : ByteArray)) ++ t129) ++ (⟨#[44, 32]⟩ : ByteArray)) ++ t131).size + 1 ≤ 9223372036854775807 then (some (((((((⟨#[109, 101, 114, 103, 101, 40]⟩ : ByteArray) ++ a0_3) ++ (⟨#[44, 32]⟩ : ByteArray)) ++ t129) ++ (⟨#[44, 32]⟩ : ByteArray)) ++ t131) ++ (⟨#[41]⟩ : ByteArray))) else (none)) else (none))) else (none)) else (none)) else (none))) else (none)) else (none)) else (none)) else (if 0 < (l0_4.length : Int) then ((show_in.f (show_Expr.f k) k ((rd_T26 l0_4 0).f0) ((rd_T26 l0_4 0).f1) ((rd_T26 l0_4 0).f2) ((rd_T26 l0_4 0).f3) ((rd_T26 l0_4 0).f4)).bind fun t133 => (if t133.size + 1 ≤ 9223372036854775807 then ((show_Sign.f k a0_0).bind fun t134 => (if (t133 ++ (⟨#[32]⟩ : ByteArray)).size + t134.size ≤ 9223372036854775807 then (if ((t133 ++ (⟨#[32]⟩ : ByteArray)) ++ t134).size + 1 ≤ 9223372036854775807 then (if 1 < (l0_4.length : Int) then ((show_in.f (show_Expr.f k) k ((rd_T26 l0_4 1).f0) ((rd_T26 l0_4 1).f1) ((rd_T26 l0_4 1).f2) ((rd_T26 l0_4 1).f3) ((rd_T26 l0_4 1).f4)).bind fun t136 => (if (((t133 ++ (⟨#[32]⟩ : ByteArray)) ++ t134) ++ (⟨#[32]⟩ : ByteArray)).size + t136.size ≤ 9223372036854775807 then (some ((((t133 ++ (⟨#[32]⟩ : ByteArray)) ++ t134) ++ (⟨#[32]⟩ : ByteArray)) ++ t136)) else (none))) else (none)) else (none)) else (none))) else (none))) else (none)))))))))))) = some r := H
  have A2 := Aside0.mk A20
  clear A20
  by_cases c3 : (l0_4.length : Int) < t110
  · rw [if_pos c3] at H
    have c3b0 : decide ((l0_4.length : Int) < t110) = true := decide_eq_true c3
    clear c3
    obtain rfl := Option.some.inj H
    simp only [Option.some.injEq, Prod.mk.injEq] at H
    obtain ⟨rfl⟩ := H
    go_enter Tryd.func9, Tryd.ntmps9
    try go_wp2_with (first | ((with_reducible refine gate_dst (N := 1) rfl ?_); refine box_event ?hg (N := 1) ?hd (cs := #[.int .i64 a0_0, .int .i64 a0_1, .int .i64 a0_2, .string a0_3, .slice A0_4 l0_4.length c0_4]) (t := 26) ?hr ?_; (case hd => rfl); (case hg => rfl); (case hr => first | (go_simp; done) | (go_simp; rfl)); intro gb109 hg w4 hbox hb; have n0_ := Aside0.mk (below_step (by repeat (first | (with_reducible first | exact HB.out | apply below_alloc | apply pw_below_drewN | apply below_drew1) | exact HB.out)) hb); have n1_ := Aside0.mk (hbox); have n2_ := Aside0.mk ((by rw [hg]; exact (below_size (by repeat (first | (with_reducible first | exact HB.out | apply below_alloc | apply pw_below_drewN | apply below_drew1) | exact HB.out))) : w.heap.size ≤ gb109)); have n3_ := Aside0.mk ((by rw [hg]; exact (below_size (by repeat (first | (with_reducible first | exact HB.out | apply below_alloc | apply pw_below_drewN | apply below_drew1) | exact HB.out))) : w.heap.size ≤ gb109)); clear HB; have HB := n0_; have BK109 := n1_; have GW109 := n2_; have GE109 := n3_; clear n0_ n1_ n2_ n3_; clear hb hbox hg))
    have n0_ := Aside0.mk (blk_drew BK109.out)
    have n1_ := Aside0.mk (below_drew1 HB.out)
    clear BK109
    clear HB
    have BK109 := n0_
    have HB := n1_
    clear n0_ n1_
    refine start_ (n := 7) (S := fun w' => w'.cell? ⟨gb109, 0, none⟩ = some (.int .i64 a0_0) ∧ w'.cell? ⟨gb109, 1, none⟩ = some (.int .i64 a0_1) ∧ w'.cell? ⟨gb109, 2, none⟩ = some (.int .i64 a0_2) ∧ w'.cell? ⟨gb109, 3, none⟩ = some (.string a0_3) ∧ w'.cell? ⟨gb109, 4, none⟩ = some (.slice A0_4 l0_4.length c0_4)) (ds := []) #[false, false, false, false, false, false, false] (by kernel_rfl) rfl rfl ⟨(blk_cell BK109.out 0).trans rfl, (blk_cell BK109.out 1).trans rfl, (blk_cell BK109.out 2).trans rfl, (blk_cell BK109.out 3).trans rfl, (blk_cell BK109.out 4).trans rfl⟩ (fun hHeld => ?_)
    generalize w4.drew = w5 at BK109 HB hHeld ⊢
    refine pure_ (i := 0) (N := some 3) (v := ?_) (a' := ?_) #[true, false, false, false, false, false, false] rfl rfl (by kernel_rfl) (fun _ _ _ h => h) (Or.inl ⟨by rfl, ?_⟩) ?_ ?_
    rotate_left
    · intro w'
      go_simp
      with_reducible rfl
    rotate_left
    · simp only [Act.put, List.setIfInBounds_toArray, List.set_cons_zero, List.set_cons_succ, i64_w, i32_w]
      rfl
    refine pure_ (i := 3) (N := some 6) (v := ?_) (a' := ?_) #[true, false, false, true, false, false, false] rfl rfl (by kernel_rfl) (fun _ _ _ h => h) (Or.inl ⟨by rfl, ?_⟩) ?_ ?_
    rotate_left
    · intro w'
      go_simp
      with_reducible rfl
    rotate_left
    · simp only [Act.put, List.setIfInBounds_toArray, List.set_cons_zero, List.set_cons_succ, i64_w, i32_w]
      rfl
    refine take_ (i := 1) (N := some 4) (v := ?_) (a' := ?_) #[true, true, false, true, false, false, false] rfl rfl (by kernel_rfl) (fun _ _ _ h => h) (Or.inl ⟨by rfl, ?_⟩) hHeld ?_ ?_
    rotate_left
    · rintro w' ⟨s0, s1, s2, s3, s4⟩
      go_simp
      with_reducible rfl
    rotate_left
    · simp only [Act.put, List.setIfInBounds_toArray, List.set_cons_zero, List.set_cons_succ, i64_w, i32_w]
      rfl
    refine pure_ (i := 2) (N := some 5) (v := ?_) (a' := ?_) #[true, true, true, true, false, false, false] rfl rfl (by kernel_rfl) (fun _ _ _ h => h) (Or.inl ⟨by rfl, ?_⟩) ?_ ?_
    rotate_left
    · intro w'
      go_simp
      with_reducible rfl
    rotate_left
    · simp only [Act.put, List.setIfInBounds_toArray, List.set_cons_zero, List.set_cons_succ, i64_w, i32_w]
      rfl
    refine take_ (i := 4) (N := some 7) (v := ?_) (a' := ?_) #[true, true, true, true, true, false, false] rfl rfl (by kernel_rfl) (fun _ _ _ h => h) (Or.inl ⟨by rfl, ?_⟩) hHeld ?_ ?_
    rotate_left
    · rintro w' ⟨s0, s1, s2, s3, s4⟩
      go_simp
      with_reducible rfl
    rotate_left
    · simp only [Act.put, List.setIfInBounds_toArray, List.set_cons_zero, List.set_cons_succ, i64_w, i32_w]
      rfl
    refine one_ (i := 5) (N := some 8) #[true, true, true, true, true, true, false] rfl rfl (by kernel_rfl) (by decide) (fun K hK => ?_)
    refine goes_ Tryd.func23 (by kernel_rfl) rfl #[.int .i64 a0_0] (by rfl) rfl rfl (by (try simp only [List.map_toArray, List.map_cons, List.map_nil]); first | done | rfl | (simp only [List.length_drop, List.length_take]; rfl)) ?_
    with_reducible refine (show_few.calls k a0_0 t110 _ A2.out).mono ?_
    rintro e w' ⟨rfl, ⟨nd, rfl⟩⟩
    refine ⟨_, rfl, ?_⟩
    refine hK.out _ _ ⟨(blk_cell BK109.out 0).trans rfl, (blk_cell BK109.out 1).trans rfl, (blk_cell BK109.out 2).trans rfl, (blk_cell BK109.out 3).trans rfl, (blk_cell BK109.out 4).trans rfl⟩ (fun hHeld => ?_)
    clear hK K
    refine norm_ (a' := ?_) ?_ ?_
    rotate_left
    · show Act.put _ (some 8) _ = _
      simp only [Act.put, List.setIfInBounds_toArray, List.set_cons_zero, List.set_cons_succ, i64_w, i32_w]
      rfl
    refine pure_ (i := 6) (N := some 9) (v := ?_) (a' := ?_) #[true, true, true, true, true, true, true] rfl rfl (by kernel_rfl) (fun _ _ _ h => h) (Or.inl ⟨by rfl, ?_⟩) ?_ ?_
    rotate_left
    · intro w'
      go_simp
      with_reducible rfl
    rotate_left
    · simp only [Act.put, List.setIfInBounds_toArray, List.set_cons_zero, List.set_cons_succ, i64_w, i32_w]
      rfl
    refine done_ (by kernel_rfl) ?_
    try go_wp2
    go_ret
    exact ⟨by first | rfl | (simp [errW_none, errW_some] <;> rfl) | (simp [*, errW_none, errW_some] <;> rfl), by repeat (first | (with_reducible first | exact HB.out | apply below_alloc | apply pw_below_drewN | apply below_drew1 | refine below_set ?_ GE109.out) | exact HB.out)⟩
  · rw [if_neg c3] at H
    have c3b0 : decide ((l0_4.length : Int) < t110) = false := decide_eq_false c3
    clear c3
    by_cases c6 : a0_0 = 1
    · rw [if_pos c6] at H
      have c6b0 : (a0_0 == 1) = true := beq_iff_eq.mpr c6
      have c6b1 : (a0_0 != 1) = false := bne_eq_false_iff_eq.mpr c6
      clear c6
      replace H := Option.bind_eq_some_iff.mp H
      obtain ⟨t111, A70, H⟩ := H
      replace H : (some t111) = some r := H
      have A7 := Aside0.mk A70
      clear A70
      obtain rfl := Option.some.inj H
      simp only [Option.some.injEq, Prod.mk.injEq] at H
      obtain ⟨rfl⟩ := H
      go_enter Tryd.func9, Tryd.ntmps9
      try go_wp2_with (first | ((with_reducible refine gate_dst (N := 1) rfl ?_); refine box_event ?hg (N := 1) ?hd (cs := #[.int .i64 a0_0, .int .i64 a0_1, .int .i64 a0_2, .string a0_3, .slice A0_4 l0_4.length c0_4]) (t := 26) ?hr ?_; (case hd => rfl); (case hg => rfl); (case hr => first | (go_simp; done) | (go_simp; rfl)); intro gb109 hg w8 hbox hb; have n0_ := Aside0.mk (below_step (by repeat (first | (with_reducible first | exact HB.out | apply below_alloc | apply pw_below_drewN | apply below_drew1) | exact HB.out)) hb); have n1_ := Aside0.mk (hbox); have n2_ := Aside0.mk ((by rw [hg]; exact (below_size (by repeat (first | (with_reducible first | exact HB.out | apply below_alloc | apply pw_below_drewN | apply below_drew1) | exact HB.out))) : w.heap.size ≤ gb109)); have n3_ := Aside0.mk ((by rw [hg]; exact (below_size (by repeat (first | (with_reducible first | exact HB.out | apply below_alloc | apply pw_below_drewN | apply below_drew1) | exact HB.out))) : w.heap.size ≤ gb109)); clear HB; have HB := n0_; have BK109 := n1_; have GW109 := n2_; have GE109 := n3_; clear n0_ n1_ n2_ n3_; clear hb hbox hg))
      have n0_ := Aside0.mk (blk_drew BK109.out)
      have n1_ := Aside0.mk (below_drew1 HB.out)
      clear BK109
      clear HB
      have BK109 := n0_
      have HB := n1_
      clear n0_ n1_
      refine start_ (n := 7) (S := fun w' => w'.cell? ⟨gb109, 0, none⟩ = some (.int .i64 a0_0) ∧ w'.cell? ⟨gb109, 1, none⟩ = some (.int .i64 a0_1) ∧ w'.cell? ⟨gb109, 2, none⟩ = some (.int .i64 a0_2) ∧ w'.cell? ⟨gb109, 3, none⟩ = some (.string a0_3) ∧ w'.cell? ⟨gb109, 4, none⟩ = some (.slice A0_4 l0_4.length c0_4)) (ds := []) #[false, false, false, false, false, false, false] (by kernel_rfl) rfl rfl ⟨(blk_cell BK109.out 0).trans rfl, (blk_cell BK109.out 1).trans rfl, (blk_cell BK109.out 2).trans rfl, (blk_cell BK109.out 3).trans rfl, (blk_cell BK109.out 4).trans rfl⟩ (fun hHeld => ?_)
      generalize w8.drew = w9 at BK109 HB hHeld ⊢
      refine pure_ (i := 0) (N := some 3) (v := ?_) (a' := ?_) #[true, false, false, false, false, false, false] rfl rfl (by kernel_rfl) (fun _ _ _ h => h) (Or.inl ⟨by rfl, ?_⟩) ?_ ?_
      rotate_left
      · intro w'
        go_simp
        with_reducible rfl
      rotate_left
      · simp only [Act.put, List.setIfInBounds_toArray, List.set_cons_zero, List.set_cons_succ, i64_w, i32_w]
        rfl
      refine pure_ (i := 3) (N := some 6) (v := ?_) (a' := ?_) #[true, false, false, true, false, false, false] rfl rfl (by kernel_rfl) (fun _ _ _ h => h) (Or.inl ⟨by rfl, ?_⟩) ?_ ?_
      rotate_left
      · intro w'
        go_simp
        with_reducible rfl
      rotate_left
      · simp only [Act.put, List.setIfInBounds_toArray, List.set_cons_zero, List.set_cons_succ, i64_w, i32_w]
        rfl
      refine take_ (i := 1) (N := some 4) (v := ?_) (a' := ?_) #[true, true, false, true, false, false, false] rfl rfl (by kernel_rfl) (fun _ _ _ h => h) (Or.inl ⟨by rfl, ?_⟩) hHeld ?_ ?_
      rotate_left
      · rintro w' ⟨s0, s1, s2, s3, s4⟩
        go_simp
        with_reducible rfl
      rotate_left
      · simp only [Act.put, List.setIfInBounds_toArray, List.set_cons_zero, List.set_cons_succ, i64_w, i32_w]
        rfl
      refine pure_ (i := 2) (N := some 5) (v := ?_) (a' := ?_) #[true, true, true, true, false, false, false] rfl rfl (by kernel_rfl) (fun _ _ _ h => h) (Or.inl ⟨by rfl, ?_⟩) ?_ ?_
      rotate_left
      · intro w'
        go_simp
        with_reducible rfl
      rotate_left
      · simp only [Act.put, List.setIfInBounds_toArray, List.set_cons_zero, List.set_cons_succ, i64_w, i32_w]
        rfl
      refine take_ (i := 4) (N := some 7) (v := ?_) (a' := ?_) #[true, true, true, true, true, false, false] rfl rfl (by kernel_rfl) (fun _ _ _ h => h) (Or.inl ⟨by rfl, ?_⟩) hHeld ?_ ?_
      rotate_left
      · rintro w' ⟨s0, s1, s2, s3, s4⟩
        go_simp
        with_reducible rfl
      rotate_left
      · simp only [Act.put, List.setIfInBounds_toArray, List.set_cons_zero, List.set_cons_succ, i64_w, i32_w]
        rfl
      refine one_ (i := 5) (N := some 8) #[true, true, true, true, true, true, false] rfl rfl (by kernel_rfl) (by decide) (fun K hK => ?_)
      refine goes_ Tryd.func23 (by kernel_rfl) rfl #[.int .i64 a0_0] (by rfl) rfl rfl (by (try simp only [List.map_toArray, List.map_cons, List.map_nil]); first | done | rfl | (simp only [List.length_drop, List.length_take]; rfl)) ?_
      with_reducible refine (show_few.calls k a0_0 t110 _ A2.out).mono ?_
      rintro e w' ⟨rfl, ⟨nd, rfl⟩⟩
      refine ⟨_, rfl, ?_⟩
      refine hK.out _ _ ⟨(blk_cell BK109.out 0).trans rfl, (blk_cell BK109.out 1).trans rfl, (blk_cell BK109.out 2).trans rfl, (blk_cell BK109.out 3).trans rfl, (blk_cell BK109.out 4).trans rfl⟩ (fun hHeld => ?_)
      clear hK K
      refine norm_ (a' := ?_) ?_ ?_
      rotate_left
      · show Act.put _ (some 8) _ = _
        simp only [Act.put, List.setIfInBounds_toArray, List.set_cons_zero, List.set_cons_succ, i64_w, i32_w]
        rfl
      refine pure_ (i := 6) (N := some 9) (v := ?_) (a' := ?_) #[true, true, true, true, true, true, true] rfl rfl (by kernel_rfl) (fun _ _ _ h => h) (Or.inl ⟨by rfl, ?_⟩) ?_ ?_
      rotate_left
      · intro w'
        go_simp
        with_reducible rfl
      rotate_left
      · simp only [Act.put, List.setIfInBounds_toArray, List.set_cons_zero, List.set_cons_succ, i64_w, i32_w]
        rfl
      refine done_ (by kernel_rfl) ?_
      have hcz10_0 : w9.cell? ⟨gb109, 0, none⟩ = some (.int .i64 a0_0) := (blk_cell BK109.out 0).trans rfl
      have hcz10_1 : w9.cell? ⟨gb109, 1, none⟩ = some (.int .i64 a0_1) := (blk_cell BK109.out 1).trans rfl
      have hcz10_2 : w9.cell? ⟨gb109, 2, none⟩ = some (.int .i64 a0_2) := (blk_cell BK109.out 2).trans rfl
      have hcz10_3 : w9.cell? ⟨gb109, 3, none⟩ = some (.string a0_3) := (blk_cell BK109.out 3).trans rfl
      have hcz10_4 : w9.cell? ⟨gb109, 4, none⟩ = some (.slice A0_4 l0_4.length c0_4) := (blk_cell BK109.out 4).trans rfl
      have hfz10_0 := blk_frozen BK109.out 0
      have hfz10_1 := blk_frozen BK109.out 1
      have hfz10_2 := blk_frozen BK109.out 2
      have hfz10_3 := blk_frozen BK109.out 3
      have hfz10_4 := blk_frozen BK109.out 4
      try go_wp2_with (first | ((with_reducible refine gate_callee (f := 24) rfl ?_); refine goesL_ (some 16) rfl rfl Tryd.func24 (by kernel_rfl) rfl #[.int .i64 a0_2, .int .i64 10] rfl (by (try simp only [List.map_toArray, List.map_cons, List.map_nil]); first | done | rfl | (simp only [List.length_drop, List.length_take]; rfl)) ?_; (with_reducible refine (strconv_FormatInt.calls a0_2 10 t111 _ ?side1 A7.out).mono ?_); (case side1 => exact GlobW.below HG.out (by repeat (first | (with_reducible first | exact HB.out | apply below_alloc | apply pw_below_drewN | apply below_drew1 | refine below_set ?_ GE109.out) | exact HB.out))); rintro e w11 ⟨rfl, hb⟩; refine ⟨_, rfl, ?_⟩; have n0_ := Aside0.mk (blk_below (g := gb109) (o := .cells #[.int .i64 a0_0, .int .i64 a0_1, .int .i64 a0_2, .string a0_3, .slice A0_4 l0_4.length c0_4] 26 (0, 0)) (by (with_reducible repeat (first | refine blk_drewN ?_ _ | refine blk_drew ?_ | refine blk_alloc ?_ _)); exact BK109.out) hb); have n1_ := Aside0.mk (below_step (by repeat (first | (with_reducible first | exact HB.out | apply below_alloc | apply pw_below_drewN | apply below_drew1 | refine below_set ?_ GE109.out) | exact HB.out)) hb); clear BK109; clear HB; have BK109 := n0_; have HB := n1_; clear n0_ n1_; (try clear hb); (try clear hb2); (try clear hk); (try clear hi)))
      go_ret
      exact ⟨by first | rfl | (simp [errW_none, errW_some] <;> rfl) | (simp [*, errW_none, errW_some] <;> rfl), by repeat (first | (with_reducible first | exact HB.out | apply below_alloc | apply pw_below_drewN | apply below_drew1 | refine below_set ?_ GE109.out) | exact HB.out)⟩
    · rw [if_neg c6] at H
      have c6b0 : (a0_0 == 1) = false := beq_eq_false_iff_ne.mpr c6
      have c6b1 : (a0_0 != 1) = true := bne_iff_ne.mpr c6
      by_cases c12 : a0_0 = 2
      · rw [if_pos c12] at H
        have c12b0 : (a0_0 == 2) = true := beq_iff_eq.mpr c12
        have c12b1 : (a0_0 != 2) = false := bne_eq_false_iff_eq.mpr c12
        clear c12
        replace H := Option.bind_eq_some_iff.mp H
        obtain ⟨t112, A130, H⟩ := H
        replace H : (some t112) = some r := H
        have A13 := Aside0.mk A130
        clear A130
        obtain rfl := Option.some.inj H
        simp only [Option.some.injEq, Prod.mk.injEq] at H
        obtain ⟨rfl⟩ := H
        go_enter Tryd.func9, Tryd.ntmps9
        try go_wp2_with (first | ((with_reducible refine gate_dst (N := 1) rfl ?_); refine box_event ?hg (N := 1) ?hd (cs := #[.int .i64 a0_0, .int .i64 a0_1, .int .i64 a0_2, .string a0_3, .slice A0_4 l0_4.length c0_4]) (t := 26) ?hr ?_; (case hd => rfl); (case hg => rfl); (case hr => first | (go_simp; done) | (go_simp; rfl)); intro gb109 hg w14 hbox hb; have n0_ := Aside0.mk (below_step (by repeat (first | (with_reducible first | exact HB.out | apply below_alloc | apply pw_below_drewN | apply below_drew1) | exact HB.out)) hb); have n1_ := Aside0.mk (hbox); have n2_ := Aside0.mk ((by rw [hg]; exact (below_size (by repeat (first | (with_reducible first | exact HB.out | apply below_alloc | apply pw_below_drewN | apply below_drew1) | exact HB.out))) : w.heap.size ≤ gb109)); have n3_ := Aside0.mk ((by rw [hg]; exact (below_size (by repeat (first | (with_reducible first | exact HB.out | apply below_alloc | apply pw_below_drewN | apply below_drew1) | exact HB.out))) : w.heap.size ≤ gb109)); clear HB; have HB := n0_; have BK109 := n1_; have GW109 := n2_; have GE109 := n3_; clear n0_ n1_ n2_ n3_; clear hb hbox hg))
        have n0_ := Aside0.mk (blk_drew BK109.out)
        have n1_ := Aside0.mk (below_drew1 HB.out)
        clear BK109
        clear HB
        have BK109 := n0_
        have HB := n1_
        clear n0_ n1_
        refine start_ (n := 7) (S := fun w' => w'.cell? ⟨gb109, 0, none⟩ = some (.int .i64 a0_0) ∧ w'.cell? ⟨gb109, 1, none⟩ = some (.int .i64 a0_1) ∧ w'.cell? ⟨gb109, 2, none⟩ = some (.int .i64 a0_2) ∧ w'.cell? ⟨gb109, 3, none⟩ = some (.string a0_3) ∧ w'.cell? ⟨gb109, 4, none⟩ = some (.slice A0_4 l0_4.length c0_4)) (ds := []) #[false, false, false, false, false, false, false] (by kernel_rfl) rfl rfl ⟨(blk_cell BK109.out 0).trans rfl, (blk_cell BK109.out 1).trans rfl, (blk_cell BK109.out 2).trans rfl, (blk_cell BK109.out 3).trans rfl, (blk_cell BK109.out 4).trans rfl⟩ (fun hHeld => ?_)
        generalize w14.drew = w15 at BK109 HB hHeld ⊢
        refine pure_ (i := 0) (N := some 3) (v := ?_) (a' := ?_) #[true, false, false, false, false, false, false] rfl rfl (by kernel_rfl) (fun _ _ _ h => h) (Or.inl ⟨by rfl, ?_⟩) ?_ ?_
        rotate_left
        · intro w'
          go_simp
          with_reducible rfl
        rotate_left
        · simp only [Act.put, List.setIfInBounds_toArray, List.set_cons_zero, List.set_cons_succ, i64_w, i32_w]
          rfl
        refine pure_ (i := 3) (N := some 6) (v := ?_) (a' := ?_) #[true, false, false, true, false, false, false] rfl rfl (by kernel_rfl) (fun _ _ _ h => h) (Or.inl ⟨by rfl, ?_⟩) ?_ ?_
        rotate_left
        · intro w'
          go_simp
          with_reducible rfl
        rotate_left
        · simp only [Act.put, List.setIfInBounds_toArray, List.set_cons_zero, List.set_cons_succ, i64_w, i32_w]
          rfl
        refine take_ (i := 1) (N := some 4) (v := ?_) (a' := ?_) #[true, true, false, true, false, false, false] rfl rfl (by kernel_rfl) (fun _ _ _ h => h) (Or.inl ⟨by rfl, ?_⟩) hHeld ?_ ?_
        rotate_left
        · rintro w' ⟨s0, s1, s2, s3, s4⟩
          go_simp
          with_reducible rfl
        rotate_left
        · simp only [Act.put, List.setIfInBounds_toArray, List.set_cons_zero, List.set_cons_succ, i64_w, i32_w]
          rfl
        refine pure_ (i := 2) (N := some 5) (v := ?_) (a' := ?_) #[true, true, true, true, false, false, false] rfl rfl (by kernel_rfl) (fun _ _ _ h => h) (Or.inl ⟨by rfl, ?_⟩) ?_ ?_
        rotate_left
        · intro w'
          go_simp
          with_reducible rfl
        rotate_left
        · simp only [Act.put, List.setIfInBounds_toArray, List.set_cons_zero, List.set_cons_succ, i64_w, i32_w]
          rfl
        refine take_ (i := 4) (N := some 7) (v := ?_) (a' := ?_) #[true, true, true, true, true, false, false] rfl rfl (by kernel_rfl) (fun _ _ _ h => h) (Or.inl ⟨by rfl, ?_⟩) hHeld ?_ ?_
        rotate_left
        · rintro w' ⟨s0, s1, s2, s3, s4⟩
          go_simp
          with_reducible rfl
        rotate_left
        · simp only [Act.put, List.setIfInBounds_toArray, List.set_cons_zero, List.set_cons_succ, i64_w, i32_w]
          rfl
        refine one_ (i := 5) (N := some 8) #[true, true, true, true, true, true, false] rfl rfl (by kernel_rfl) (by decide) (fun K hK => ?_)
        refine goes_ Tryd.func23 (by kernel_rfl) rfl #[.int .i64 a0_0] (by rfl) rfl rfl (by (try simp only [List.map_toArray, List.map_cons, List.map_nil]); first | done | rfl | (simp only [List.length_drop, List.length_take]; rfl)) ?_
        with_reducible refine (show_few.calls k a0_0 t110 _ A2.out).mono ?_
        rintro e w' ⟨rfl, ⟨nd, rfl⟩⟩
        refine ⟨_, rfl, ?_⟩
        refine hK.out _ _ ⟨(blk_cell BK109.out 0).trans rfl, (blk_cell BK109.out 1).trans rfl, (blk_cell BK109.out 2).trans rfl, (blk_cell BK109.out 3).trans rfl, (blk_cell BK109.out 4).trans rfl⟩ (fun hHeld => ?_)
        clear hK K
        refine norm_ (a' := ?_) ?_ ?_
        rotate_left
        · show Act.put _ (some 8) _ = _
          simp only [Act.put, List.setIfInBounds_toArray, List.set_cons_zero, List.set_cons_succ, i64_w, i32_w]
          rfl
        refine pure_ (i := 6) (N := some 9) (v := ?_) (a' := ?_) #[true, true, true, true, true, true, true] rfl rfl (by kernel_rfl) (fun _ _ _ h => h) (Or.inl ⟨by rfl, ?_⟩) ?_ ?_
        rotate_left
        · intro w'
          go_simp
          with_reducible rfl
        rotate_left
        · simp only [Act.put, List.setIfInBounds_toArray, List.set_cons_zero, List.set_cons_succ, i64_w, i32_w]
          rfl
        refine done_ (by kernel_rfl) ?_
        have hcz16_0 : w15.cell? ⟨gb109, 0, none⟩ = some (.int .i64 a0_0) := (blk_cell BK109.out 0).trans rfl
        have hcz16_1 : w15.cell? ⟨gb109, 1, none⟩ = some (.int .i64 a0_1) := (blk_cell BK109.out 1).trans rfl
        have hcz16_2 : w15.cell? ⟨gb109, 2, none⟩ = some (.int .i64 a0_2) := (blk_cell BK109.out 2).trans rfl
        have hcz16_3 : w15.cell? ⟨gb109, 3, none⟩ = some (.string a0_3) := (blk_cell BK109.out 3).trans rfl
        have hcz16_4 : w15.cell? ⟨gb109, 4, none⟩ = some (.slice A0_4 l0_4.length c0_4) := (blk_cell BK109.out 4).trans rfl
        have hfz16_0 := blk_frozen BK109.out 0
        have hfz16_1 := blk_frozen BK109.out 1
        have hfz16_2 := blk_frozen BK109.out 2
        have hfz16_3 := blk_frozen BK109.out 3
        have hfz16_4 := blk_frozen BK109.out 4
        try go_wp2_with (first | ((with_reducible refine gate_callee (f := 25) rfl ?_); refine goesL_ (some 22) rfl rfl Tryd.func25 (by kernel_rfl) rfl #[.bool (a0_2 == 1)] rfl (by (try simp only [List.map_toArray, List.map_cons, List.map_nil]); first | done | rfl | (simp only [List.length_drop, List.length_take]; rfl)) ?_; (with_reducible refine (strconv_FormatBool_25.calls (a0_2 == 1) t112 _ A13.out).mono ?_); rintro e w' ⟨rfl, ⟨nd, rfl⟩⟩; refine ⟨_, rfl, ?_⟩))
        go_ret
        exact ⟨by first | rfl | (simp [errW_none, errW_some] <;> rfl) | (simp [*, errW_none, errW_some] <;> rfl), by repeat (first | (with_reducible first | exact HB.out | apply below_alloc | apply pw_below_drewN | apply below_drew1 | refine below_set ?_ GE109.out) | exact HB.out)⟩
      · rw [if_neg c12] at H
        have c12b0 : (a0_0 == 2) = false := beq_eq_false_iff_ne.mpr c12
        have c12b1 : (a0_0 != 2) = true := bne_iff_ne.mpr c12
        by_cases c17 : a0_0 = 3
        · rw [if_pos c17] at H
          have c17b0 : (a0_0 == 3) = true := beq_iff_eq.mpr c17
          have c17b1 : (a0_0 != 3) = false := bne_eq_false_iff_eq.mpr c17
          clear c17
          obtain rfl := Option.some.inj H
          simp only [Option.some.injEq, Prod.mk.injEq] at H
          obtain ⟨rfl⟩ := H
          go_enter Tryd.func9, Tryd.ntmps9
          try go_wp2_with (first | ((with_reducible refine gate_dst (N := 1) rfl ?_); refine box_event ?hg (N := 1) ?hd (cs := #[.int .i64 a0_0, .int .i64 a0_1, .int .i64 a0_2, .string a0_3, .slice A0_4 l0_4.length c0_4]) (t := 26) ?hr ?_; (case hd => rfl); (case hg => rfl); (case hr => first | (go_simp; done) | (go_simp; rfl)); intro gb109 hg w18 hbox hb; have n0_ := Aside0.mk (below_step (by repeat (first | (with_reducible first | exact HB.out | apply below_alloc | apply pw_below_drewN | apply below_drew1) | exact HB.out)) hb); have n1_ := Aside0.mk (hbox); have n2_ := Aside0.mk ((by rw [hg]; exact (below_size (by repeat (first | (with_reducible first | exact HB.out | apply below_alloc | apply pw_below_drewN | apply below_drew1) | exact HB.out))) : w.heap.size ≤ gb109)); have n3_ := Aside0.mk ((by rw [hg]; exact (below_size (by repeat (first | (with_reducible first | exact HB.out | apply below_alloc | apply pw_below_drewN | apply below_drew1) | exact HB.out))) : w.heap.size ≤ gb109)); clear HB; have HB := n0_; have BK109 := n1_; have GW109 := n2_; have GE109 := n3_; clear n0_ n1_ n2_ n3_; clear hb hbox hg))
          have n0_ := Aside0.mk (blk_drew BK109.out)
          have n1_ := Aside0.mk (below_drew1 HB.out)
          clear BK109
          clear HB
          have BK109 := n0_
          have HB := n1_
          clear n0_ n1_
          refine start_ (n := 7) (S := fun w' => w'.cell? ⟨gb109, 0, none⟩ = some (.int .i64 a0_0) ∧ w'.cell? ⟨gb109, 1, none⟩ = some (.int .i64 a0_1) ∧ w'.cell? ⟨gb109, 2, none⟩ = some (.int .i64 a0_2) ∧ w'.cell? ⟨gb109, 3, none⟩ = some (.string a0_3) ∧ w'.cell? ⟨gb109, 4, none⟩ = some (.slice A0_4 l0_4.length c0_4)) (ds := []) #[false, false, false, false, false, false, false] (by kernel_rfl) rfl rfl ⟨(blk_cell BK109.out 0).trans rfl, (blk_cell BK109.out 1).trans rfl, (blk_cell BK109.out 2).trans rfl, (blk_cell BK109.out 3).trans rfl, (blk_cell BK109.out 4).trans rfl⟩ (fun hHeld => ?_)
          generalize w18.drew = w19 at BK109 HB hHeld ⊢
          refine pure_ (i := 0) (N := some 3) (v := ?_) (a' := ?_) #[true, false, false, false, false, false, false] rfl rfl (by kernel_rfl) (fun _ _ _ h => h) (Or.inl ⟨by rfl, ?_⟩) ?_ ?_
          rotate_left
          · intro w'
            go_simp
            with_reducible rfl
          rotate_left
          · simp only [Act.put, List.setIfInBounds_toArray, List.set_cons_zero, List.set_cons_succ, i64_w, i32_w]
            rfl
          refine pure_ (i := 3) (N := some 6) (v := ?_) (a' := ?_) #[true, false, false, true, false, false, false] rfl rfl (by kernel_rfl) (fun _ _ _ h => h) (Or.inl ⟨by rfl, ?_⟩) ?_ ?_
          rotate_left
          · intro w'
            go_simp
            with_reducible rfl
          rotate_left
          · simp only [Act.put, List.setIfInBounds_toArray, List.set_cons_zero, List.set_cons_succ, i64_w, i32_w]
            rfl
          refine take_ (i := 1) (N := some 4) (v := ?_) (a' := ?_) #[true, true, false, true, false, false, false] rfl rfl (by kernel_rfl) (fun _ _ _ h => h) (Or.inl ⟨by rfl, ?_⟩) hHeld ?_ ?_
          rotate_left
          · rintro w' ⟨s0, s1, s2, s3, s4⟩
            go_simp
            with_reducible rfl
          rotate_left
          · simp only [Act.put, List.setIfInBounds_toArray, List.set_cons_zero, List.set_cons_succ, i64_w, i32_w]
            rfl
          refine pure_ (i := 2) (N := some 5) (v := ?_) (a' := ?_) #[true, true, true, true, false, false, false] rfl rfl (by kernel_rfl) (fun _ _ _ h => h) (Or.inl ⟨by rfl, ?_⟩) ?_ ?_
          rotate_left
          · intro w'
            go_simp
            with_reducible rfl
          rotate_left
          · simp only [Act.put, List.setIfInBounds_toArray, List.set_cons_zero, List.set_cons_succ, i64_w, i32_w]
            rfl
          refine take_ (i := 4) (N := some 7) (v := ?_) (a' := ?_) #[true, true, true, true, true, false, false] rfl rfl (by kernel_rfl) (fun _ _ _ h => h) (Or.inl ⟨by rfl, ?_⟩) hHeld ?_ ?_
          rotate_left
          · rintro w' ⟨s0, s1, s2, s3, s4⟩
            go_simp
            with_reducible rfl
          rotate_left
          · simp only [Act.put, List.setIfInBounds_toArray, List.set_cons_zero, List.set_cons_succ, i64_w, i32_w]
            rfl
          refine one_ (i := 5) (N := some 8) #[true, true, true, true, true, true, false] rfl rfl (by kernel_rfl) (by decide) (fun K hK => ?_)
          refine goes_ Tryd.func23 (by kernel_rfl) rfl #[.int .i64 a0_0] (by rfl) rfl rfl (by (try simp only [List.map_toArray, List.map_cons, List.map_nil]); first | done | rfl | (simp only [List.length_drop, List.length_take]; rfl)) ?_
          with_reducible refine (show_few.calls k a0_0 t110 _ A2.out).mono ?_
          rintro e w' ⟨rfl, ⟨nd, rfl⟩⟩
          refine ⟨_, rfl, ?_⟩
          refine hK.out _ _ ⟨(blk_cell BK109.out 0).trans rfl, (blk_cell BK109.out 1).trans rfl, (blk_cell BK109.out 2).trans rfl, (blk_cell BK109.out 3).trans rfl, (blk_cell BK109.out 4).trans rfl⟩ (fun hHeld => ?_)
          clear hK K
          refine norm_ (a' := ?_) ?_ ?_
          rotate_left
          · show Act.put _ (some 8) _ = _
            simp only [Act.put, List.setIfInBounds_toArray, List.set_cons_zero, List.set_cons_succ, i64_w, i32_w]
            rfl
          refine pure_ (i := 6) (N := some 9) (v := ?_) (a' := ?_) #[true, true, true, true, true, true, true] rfl rfl (by kernel_rfl) (fun _ _ _ h => h) (Or.inl ⟨by rfl, ?_⟩) ?_ ?_
          rotate_left
          · intro w'
            go_simp
            with_reducible rfl
          rotate_left
          · simp only [Act.put, List.setIfInBounds_toArray, List.set_cons_zero, List.set_cons_succ, i64_w, i32_w]
            rfl
          refine done_ (by kernel_rfl) ?_
          have hcz20_0 : w19.cell? ⟨gb109, 0, none⟩ = some (.int .i64 a0_0) := (blk_cell BK109.out 0).trans rfl
          have hcz20_1 : w19.cell? ⟨gb109, 1, none⟩ = some (.int .i64 a0_1) := (blk_cell BK109.out 1).trans rfl
          have hcz20_2 : w19.cell? ⟨gb109, 2, none⟩ = some (.int .i64 a0_2) := (blk_cell BK109.out 2).trans rfl
          have hcz20_3 : w19.cell? ⟨gb109, 3, none⟩ = some (.string a0_3) := (blk_cell BK109.out 3).trans rfl
          have hcz20_4 : w19.cell? ⟨gb109, 4, none⟩ = some (.slice A0_4 l0_4.length c0_4) := (blk_cell BK109.out 4).trans rfl
          have hfz20_0 := blk_frozen BK109.out 0
          have hfz20_1 := blk_frozen BK109.out 1
          have hfz20_2 := blk_frozen BK109.out 2
          have hfz20_3 := blk_frozen BK109.out 3
          have hfz20_4 := blk_frozen BK109.out 4
          try go_wp2
          go_ret
          exact ⟨by first | rfl | (simp [errW_none, errW_some] <;> rfl) | (simp [*, errW_none, errW_some] <;> rfl), by repeat (first | (with_reducible first | exact HB.out | apply below_alloc | apply pw_below_drewN | apply below_drew1 | refine below_set ?_ GE109.out) | exact HB.out)⟩
        · rw [if_neg c17] at H
          have c17b0 : (a0_0 == 3) = false := beq_eq_false_iff_ne.mpr c17
          have c17b1 : (a0_0 != 3) = true := bne_iff_ne.mpr c17
          by_cases c21 : a0_0 = 4
          · rw [if_pos c21] at H
            have c21b0 : (a0_0 == 4) = true := beq_iff_eq.mpr c21
            have c21b1 : (a0_0 != 4) = false := bne_eq_false_iff_eq.mpr c21
            clear c21
            by_cases c22 : 0 < (l0_4.length : Int)
            · rw [if_pos c22] at H
              have c22b0 : decide (0 < (l0_4.length : Int)) = true := decide_eq_true c22
              have c22b1 : decide (0 < l0_4.length) = true := decide_eq_true (by omega)
              clear c22
              replace H := Option.bind_eq_some_iff.mp H
              obtain ⟨t114, A230, H⟩ := H
              replace H : (if 1 + t114.size ≤ 9223372036854775807 then (some ((⟨#[45]⟩ : ByteArray) ++ t114)) else (none)) = some r := H
              have A23 := Aside0.mk A230
              clear A230
              by_cases c24 : 1 + t114.size ≤ 9223372036854775807
              · rw [if_pos c24] at H
                have c24b0 := eq_true c24
                have c24b1 : decide (1 + t114.size ≤ 9223372036854775807) = true := decide_eq_true c24
                try have c24b2 : (9223372036854775807 < 1 + t114.size) = False := eq_false (Nat.not_lt.2 c24)
                obtain rfl := Option.some.inj H
                simp only [Option.some.injEq, Prod.mk.injEq] at H
                obtain ⟨rfl⟩ := H
                go_enter Tryd.func9, Tryd.ntmps9
                try go_wp2_with (first | ((with_reducible refine gate_dst (N := 1) rfl ?_); refine box_event ?hg (N := 1) ?hd (cs := #[.int .i64 a0_0, .int .i64 a0_1, .int .i64 a0_2, .string a0_3, .slice A0_4 l0_4.length c0_4]) (t := 26) ?hr ?_; (case hd => rfl); (case hg => rfl); (case hr => first | (go_simp; done) | (go_simp; rfl)); intro gb109 hg w25 hbox hb; have n0_ := Aside0.mk (below_step (by repeat (first | (with_reducible first | exact HB.out | apply below_alloc | apply pw_below_drewN | apply below_drew1) | exact HB.out)) hb); have n1_ := Aside0.mk (hbox); have n2_ := Aside0.mk ((by rw [hg]; exact (below_size (by repeat (first | (with_reducible first | exact HB.out | apply below_alloc | apply pw_below_drewN | apply below_drew1) | exact HB.out))) : w.heap.size ≤ gb109)); have n3_ := Aside0.mk ((by rw [hg]; exact (below_size (by repeat (first | (with_reducible first | exact HB.out | apply below_alloc | apply pw_below_drewN | apply below_drew1) | exact HB.out))) : w.heap.size ≤ gb109)); clear HB; have HB := n0_; have BK109 := n1_; have GW109 := n2_; have GE109 := n3_; clear n0_ n1_ n2_ n3_; clear hb hbox hg))
                have n0_ := Aside0.mk (blk_drew BK109.out)
                have n1_ := Aside0.mk (below_drew1 HB.out)
                clear BK109
                clear HB
                have BK109 := n0_
                have HB := n1_
                clear n0_ n1_
                refine start_ (n := 7) (S := fun w' => w'.cell? ⟨gb109, 0, none⟩ = some (.int .i64 a0_0) ∧ w'.cell? ⟨gb109, 1, none⟩ = some (.int .i64 a0_1) ∧ w'.cell? ⟨gb109, 2, none⟩ = some (.int .i64 a0_2) ∧ w'.cell? ⟨gb109, 3, none⟩ = some (.string a0_3) ∧ w'.cell? ⟨gb109, 4, none⟩ = some (.slice A0_4 l0_4.length c0_4)) (ds := []) #[false, false, false, false, false, false, false] (by kernel_rfl) rfl rfl ⟨(blk_cell BK109.out 0).trans rfl, (blk_cell BK109.out 1).trans rfl, (blk_cell BK109.out 2).trans rfl, (blk_cell BK109.out 3).trans rfl, (blk_cell BK109.out 4).trans rfl⟩ (fun hHeld => ?_)
                generalize w25.drew = w26 at BK109 HB hHeld ⊢
                refine pure_ (i := 0) (N := some 3) (v := ?_) (a' := ?_) #[true, false, false, false, false, false, false] rfl rfl (by kernel_rfl) (fun _ _ _ h => h) (Or.inl ⟨by rfl, ?_⟩) ?_ ?_
                rotate_left
                · intro w'
                  go_simp
                  with_reducible rfl
                rotate_left
                · simp only [Act.put, List.setIfInBounds_toArray, List.set_cons_zero, List.set_cons_succ, i64_w, i32_w]
                  rfl
                refine pure_ (i := 3) (N := some 6) (v := ?_) (a' := ?_) #[true, false, false, true, false, false, false] rfl rfl (by kernel_rfl) (fun _ _ _ h => h) (Or.inl ⟨by rfl, ?_⟩) ?_ ?_
                rotate_left
                · intro w'
                  go_simp
                  with_reducible rfl
                rotate_left
                · simp only [Act.put, List.setIfInBounds_toArray, List.set_cons_zero, List.set_cons_succ, i64_w, i32_w]
                  rfl
                refine take_ (i := 1) (N := some 4) (v := ?_) (a' := ?_) #[true, true, false, true, false, false, false] rfl rfl (by kernel_rfl) (fun _ _ _ h => h) (Or.inl ⟨by rfl, ?_⟩) hHeld ?_ ?_
                rotate_left
                · rintro w' ⟨s0, s1, s2, s3, s4⟩
                  go_simp
                  with_reducible rfl
                rotate_left
                · simp only [Act.put, List.setIfInBounds_toArray, List.set_cons_zero, List.set_cons_succ, i64_w, i32_w]
                  rfl
                refine pure_ (i := 2) (N := some 5) (v := ?_) (a' := ?_) #[true, true, true, true, false, false, false] rfl rfl (by kernel_rfl) (fun _ _ _ h => h) (Or.inl ⟨by rfl, ?_⟩) ?_ ?_
                rotate_left
                · intro w'
                  go_simp
                  with_reducible rfl
                rotate_left
                · simp only [Act.put, List.setIfInBounds_toArray, List.set_cons_zero, List.set_cons_succ, i64_w, i32_w]
                  rfl
                refine take_ (i := 4) (N := some 7) (v := ?_) (a' := ?_) #[true, true, true, true, true, false, false] rfl rfl (by kernel_rfl) (fun _ _ _ h => h) (Or.inl ⟨by rfl, ?_⟩) hHeld ?_ ?_
                rotate_left
                · rintro w' ⟨s0, s1, s2, s3, s4⟩
                  go_simp
                  with_reducible rfl
                rotate_left
                · simp only [Act.put, List.setIfInBounds_toArray, List.set_cons_zero, List.set_cons_succ, i64_w, i32_w]
                  rfl
                refine one_ (i := 5) (N := some 8) #[true, true, true, true, true, true, false] rfl rfl (by kernel_rfl) (by decide) (fun K hK => ?_)
                refine goes_ Tryd.func23 (by kernel_rfl) rfl #[.int .i64 a0_0] (by rfl) rfl rfl (by (try simp only [List.map_toArray, List.map_cons, List.map_nil]); first | done | rfl | (simp only [List.length_drop, List.length_take]; rfl)) ?_
                with_reducible refine (show_few.calls k a0_0 t110 _ A2.out).mono ?_
                rintro e w' ⟨rfl, ⟨nd, rfl⟩⟩
                refine ⟨_, rfl, ?_⟩
                refine hK.out _ _ ⟨(blk_cell BK109.out 0).trans rfl, (blk_cell BK109.out 1).trans rfl, (blk_cell BK109.out 2).trans rfl, (blk_cell BK109.out 3).trans rfl, (blk_cell BK109.out 4).trans rfl⟩ (fun hHeld => ?_)
                clear hK K
                refine norm_ (a' := ?_) ?_ ?_
                rotate_left
                · show Act.put _ (some 8) _ = _
                  simp only [Act.put, List.setIfInBounds_toArray, List.set_cons_zero, List.set_cons_succ, i64_w, i32_w]
                  rfl
                refine pure_ (i := 6) (N := some 9) (v := ?_) (a' := ?_) #[true, true, true, true, true, true, true] rfl rfl (by kernel_rfl) (fun _ _ _ h => h) (Or.inl ⟨by rfl, ?_⟩) ?_ ?_
                rotate_left
                · intro w'
                  go_simp
                  with_reducible rfl
                rotate_left
                · simp only [Act.put, List.setIfInBounds_toArray, List.set_cons_zero, List.set_cons_succ, i64_w, i32_w]
                  rfl
                refine done_ (by kernel_rfl) ?_
                have hcz27_0 : w26.cell? ⟨gb109, 0, none⟩ = some (.int .i64 a0_0) := (blk_cell BK109.out 0).trans rfl
                have hcz27_1 : w26.cell? ⟨gb109, 1, none⟩ = some (.int .i64 a0_1) := (blk_cell BK109.out 1).trans rfl
                have hcz27_2 : w26.cell? ⟨gb109, 2, none⟩ = some (.int .i64 a0_2) := (blk_cell BK109.out 2).trans rfl
                have hcz27_3 : w26.cell? ⟨gb109, 3, none⟩ = some (.string a0_3) := (blk_cell BK109.out 3).trans rfl
                have hcz27_4 : w26.cell? ⟨gb109, 4, none⟩ = some (.slice A0_4 l0_4.length c0_4) := (blk_cell BK109.out 4).trans rfl
                have hfz27_0 := blk_frozen BK109.out 0
                have hfz27_1 := blk_frozen BK109.out 1
                have hfz27_2 := blk_frozen BK109.out 2
                have hfz27_3 := blk_frozen BK109.out 3
                have hfz27_4 := blk_frozen BK109.out 4
                have p113 : 0 ≤ (0 : Int) := (by omega)
                have q113 : 0 < (l0_4.length : Int) := of_decide_eq_true (by first | (with_reducible assumption) | assumption)
                obtain ⟨ad113, A113_4, c113_4, e113, hx113_0, hx113_1, hx113_2, hx113_3, hx113_4, hl113_4, hi113_4⟩ := at_T26 HR0_4.out 0 p113 q113
                cases e113
                have qi113 : (0 < l0_4.length) = True := eq_true (by omega)
                (try rw [show ((0 : Int)).toNat = 0 from rfl] at hx113_0)
                (try rw [show 0 * 5 = 0 from rfl] at hx113_0)
                (try rw [Addr.add_zero'] at hx113_0)
                (try rw [show ((0 : Int)).toNat = 0 from rfl] at hx113_1)
                (try rw [show 0 * 5 = 0 from rfl] at hx113_1)
                (try rw [Addr.add_zero'] at hx113_1)
                (try rw [show ((0 : Int)).toNat = 0 from rfl] at hx113_2)
                (try rw [show 0 * 5 = 0 from rfl] at hx113_2)
                (try rw [Addr.add_zero'] at hx113_2)
                (try rw [show ((0 : Int)).toNat = 0 from rfl] at hx113_3)
                (try rw [show 0 * 5 = 0 from rfl] at hx113_3)
                (try rw [Addr.add_zero'] at hx113_3)
                (try rw [show ((0 : Int)).toNat = 0 from rfl] at hx113_4)
                (try rw [show 0 * 5 = 0 from rfl] at hx113_4)
                (try rw [Addr.add_zero'] at hx113_4)
                replace hx113_0 := (HB.out.cell (World.block_lt_of_cell? w _ hx113_0)).trans hx113_0
                replace hx113_1 := (HB.out.cell (World.block_lt_of_cell? w _ hx113_1)).trans hx113_1
                replace hx113_2 := (HB.out.cell (World.block_lt_of_cell? w _ hx113_2)).trans hx113_2
                replace hx113_3 := (HB.out.cell (World.block_lt_of_cell? w _ hx113_3)).trans hx113_3
                replace hx113_4 := (HB.out.cell (World.block_lt_of_cell? w _ hx113_4)).trans hx113_4
                have HR113_4 := Aside0.mk hi113_4
                have HC113_4 := Aside0.mk hl113_4
                clear hi113_4 hl113_4
                replace p113 := eq_true p113
                replace q113 := eq_true q113
                try go_wp2_with (first | ((with_reducible refine gate_callee (f := 26) rfl ?_); refine goesL_ (some 33) rfl rfl Tryd.func26 (by kernel_rfl) rfl #[.agg #[.int .i64 ((rd_T26 l0_4 0).f0), .int .i64 ((rd_T26 l0_4 0).f1), .int .i64 ((rd_T26 l0_4 0).f2), .string ((rd_T26 l0_4 0).f3), .slice A113_4 ((rd_T26 l0_4 0).f4).length c113_4]] rfl (by (try simp only [List.map_toArray, List.map_cons, List.map_nil]); first | done | rfl | (simp only [List.length_drop, List.length_take]; rfl)) ?_; (with_reducible refine (show_in.calls (show_Expr.f k) (ih k (by omega)) k ((rd_T26 l0_4 0).f0) ((rd_T26 l0_4 0).f1) ((rd_T26 l0_4 0).f2) ((rd_T26 l0_4 0).f3) _ _ ((rd_T26 l0_4 0).f4) t114 _ ?side1 ?side2 ?side3 A23.out).mono ?_); (case side1 => repeat (first | exact (Kd.C_below HR113_4.out (by repeat (first | (with_reducible first | exact HB.out | apply below_alloc | apply pw_below_drewN | apply below_drew1 | refine below_set ?_ GE109.out) | exact HB.out))) | (with_reducible refine Kd.C_alloc ?_ _) | (with_reducible refine Kd.C_drewN ?_ _) | (with_reducible refine Kd.C_drew ?_))); (case side2 => exact HC113_4.out); (case side3 => exact GlobW.below HG.out (by repeat (first | (with_reducible first | exact HB.out | apply below_alloc | apply pw_below_drewN | apply below_drew1 | refine below_set ?_ GE109.out) | exact HB.out))); rintro e w28 ⟨rfl, hb⟩; refine ⟨_, rfl, ?_⟩; have n0_ := Aside0.mk (blk_below (g := gb109) (o := .cells #[.int .i64 a0_0, .int .i64 a0_1, .int .i64 a0_2, .string a0_3, .slice (some ad113) l0_4.length c0_4] 26 (0, 0)) (by (with_reducible repeat (first | refine blk_drewN ?_ _ | refine blk_drew ?_ | refine blk_alloc ?_ _)); exact BK109.out) hb); have n1_ := Aside0.mk (below_step (by repeat (first | (with_reducible first | exact HB.out | apply below_alloc | apply pw_below_drewN | apply below_drew1 | refine below_set ?_ GE109.out) | exact HB.out)) hb); clear BK109; clear HB; have BK109 := n0_; have HB := n1_; clear n0_ n1_; (try clear hb); (try clear hb2); (try clear hk); (try clear hi)))
                go_ret
                exact ⟨by first | rfl | (simp [errW_none, errW_some] <;> rfl) | (simp [*, errW_none, errW_some] <;> rfl), by repeat (first | (with_reducible first | exact HB.out | apply below_alloc | apply pw_below_drewN | apply below_drew1 | refine below_set ?_ GE109.out) | exact HB.out)⟩
              · rw [if_neg c24] at H
                exact absurd H (by simp)
            · rw [if_neg c22] at H
              exact absurd H (by simp)
          · rw [if_neg c21] at H
            have c21b0 : (a0_0 == 4) = false := beq_eq_false_iff_ne.mpr c21
            have c21b1 : (a0_0 != 4) = true := bne_iff_ne.mpr c21
            by_cases c29 : a0_0 = 5
            · rw [if_pos c29] at H
              have c29b0 : (a0_0 == 5) = true := beq_iff_eq.mpr c29
              have c29b1 : (a0_0 != 5) = false := bne_eq_false_iff_eq.mpr c29
              clear c29
              by_cases c30 : 0 < (l0_4.length : Int)
              · rw [if_pos c30] at H
                have c30b0 : decide (0 < (l0_4.length : Int)) = true := decide_eq_true c30
                have c30b1 : decide (0 < l0_4.length) = true := decide_eq_true (by omega)
                clear c30
                replace H := Option.bind_eq_some_iff.mp H
                obtain ⟨t116, A310, H⟩ := H
                replace H : (if 4 + t116.size ≤ 9223372036854775807 then (some ((⟨#[110, 111, 116, 32]⟩ : ByteArray) ++ t116)) else (none)) = some r := H
                have A31 := Aside0.mk A310
                clear A310
                by_cases c32 : 4 + t116.size ≤ 9223372036854775807
                · rw [if_pos c32] at H
                  have c32b0 := eq_true c32
                  have c32b1 : decide (4 + t116.size ≤ 9223372036854775807) = true := decide_eq_true c32
                  try have c32b2 : (9223372036854775807 < 4 + t116.size) = False := eq_false (Nat.not_lt.2 c32)
                  obtain rfl := Option.some.inj H
                  simp only [Option.some.injEq, Prod.mk.injEq] at H
                  obtain ⟨rfl⟩ := H
                  go_enter Tryd.func9, Tryd.ntmps9
                  try go_wp2_with (first | ((with_reducible refine gate_dst (N := 1) rfl ?_); refine box_event ?hg (N := 1) ?hd (cs := #[.int .i64 a0_0, .int .i64 a0_1, .int .i64 a0_2, .string a0_3, .slice A0_4 l0_4.length c0_4]) (t := 26) ?hr ?_; (case hd => rfl); (case hg => rfl); (case hr => first | (go_simp; done) | (go_simp; rfl)); intro gb109 hg w33 hbox hb; have n0_ := Aside0.mk (below_step (by repeat (first | (with_reducible first | exact HB.out | apply below_alloc | apply pw_below_drewN | apply below_drew1) | exact HB.out)) hb); have n1_ := Aside0.mk (hbox); have n2_ := Aside0.mk ((by rw [hg]; exact (below_size (by repeat (first | (with_reducible first | exact HB.out | apply below_alloc | apply pw_below_drewN | apply below_drew1) | exact HB.out))) : w.heap.size ≤ gb109)); have n3_ := Aside0.mk ((by rw [hg]; exact (below_size (by repeat (first | (with_reducible first | exact HB.out | apply below_alloc | apply pw_below_drewN | apply below_drew1) | exact HB.out))) : w.heap.size ≤ gb109)); clear HB; have HB := n0_; have BK109 := n1_; have GW109 := n2_; have GE109 := n3_; clear n0_ n1_ n2_ n3_; clear hb hbox hg))
                  have n0_ := Aside0.mk (blk_drew BK109.out)
                  have n1_ := Aside0.mk (below_drew1 HB.out)
                  clear BK109
                  clear HB
                  have BK109 := n0_
                  have HB := n1_
                  clear n0_ n1_
                  refine start_ (n := 7) (S := fun w' => w'.cell? ⟨gb109, 0, none⟩ = some (.int .i64 a0_0) ∧ w'.cell? ⟨gb109, 1, none⟩ = some (.int .i64 a0_1) ∧ w'.cell? ⟨gb109, 2, none⟩ = some (.int .i64 a0_2) ∧ w'.cell? ⟨gb109, 3, none⟩ = some (.string a0_3) ∧ w'.cell? ⟨gb109, 4, none⟩ = some (.slice A0_4 l0_4.length c0_4)) (ds := []) #[false, false, false, false, false, false, false] (by kernel_rfl) rfl rfl ⟨(blk_cell BK109.out 0).trans rfl, (blk_cell BK109.out 1).trans rfl, (blk_cell BK109.out 2).trans rfl, (blk_cell BK109.out 3).trans rfl, (blk_cell BK109.out 4).trans rfl⟩ (fun hHeld => ?_)
                  generalize w33.drew = w34 at BK109 HB hHeld ⊢
                  refine pure_ (i := 0) (N := some 3) (v := ?_) (a' := ?_) #[true, false, false, false, false, false, false] rfl rfl (by kernel_rfl) (fun _ _ _ h => h) (Or.inl ⟨by rfl, ?_⟩) ?_ ?_
                  rotate_left
                  · intro w'
                    go_simp
                    with_reducible rfl
                  rotate_left
                  · simp only [Act.put, List.setIfInBounds_toArray, List.set_cons_zero, List.set_cons_succ, i64_w, i32_w]
                    rfl
                  refine pure_ (i := 3) (N := some 6) (v := ?_) (a' := ?_) #[true, false, false, true, false, false, false] rfl rfl (by kernel_rfl) (fun _ _ _ h => h) (Or.inl ⟨by rfl, ?_⟩) ?_ ?_
                  rotate_left
                  · intro w'
                    go_simp
                    with_reducible rfl
                  rotate_left
                  · simp only [Act.put, List.setIfInBounds_toArray, List.set_cons_zero, List.set_cons_succ, i64_w, i32_w]
                    rfl
                  refine take_ (i := 1) (N := some 4) (v := ?_) (a' := ?_) #[true, true, false, true, false, false, false] rfl rfl (by kernel_rfl) (fun _ _ _ h => h) (Or.inl ⟨by rfl, ?_⟩) hHeld ?_ ?_
                  rotate_left
                  · rintro w' ⟨s0, s1, s2, s3, s4⟩
                    go_simp
                    with_reducible rfl
                  rotate_left
                  · simp only [Act.put, List.setIfInBounds_toArray, List.set_cons_zero, List.set_cons_succ, i64_w, i32_w]
                    rfl
                  refine pure_ (i := 2) (N := some 5) (v := ?_) (a' := ?_) #[true, true, true, true, false, false, false] rfl rfl (by kernel_rfl) (fun _ _ _ h => h) (Or.inl ⟨by rfl, ?_⟩) ?_ ?_
                  rotate_left
                  · intro w'
                    go_simp
                    with_reducible rfl
                  rotate_left
                  · simp only [Act.put, List.setIfInBounds_toArray, List.set_cons_zero, List.set_cons_succ, i64_w, i32_w]
                    rfl
                  refine take_ (i := 4) (N := some 7) (v := ?_) (a' := ?_) #[true, true, true, true, true, false, false] rfl rfl (by kernel_rfl) (fun _ _ _ h => h) (Or.inl ⟨by rfl, ?_⟩) hHeld ?_ ?_
                  rotate_left
                  · rintro w' ⟨s0, s1, s2, s3, s4⟩
                    go_simp
                    with_reducible rfl
                  rotate_left
                  · simp only [Act.put, List.setIfInBounds_toArray, List.set_cons_zero, List.set_cons_succ, i64_w, i32_w]
                    rfl
                  refine one_ (i := 5) (N := some 8) #[true, true, true, true, true, true, false] rfl rfl (by kernel_rfl) (by decide) (fun K hK => ?_)
                  refine goes_ Tryd.func23 (by kernel_rfl) rfl #[.int .i64 a0_0] (by rfl) rfl rfl (by (try simp only [List.map_toArray, List.map_cons, List.map_nil]); first | done | rfl | (simp only [List.length_drop, List.length_take]; rfl)) ?_
                  with_reducible refine (show_few.calls k a0_0 t110 _ A2.out).mono ?_
                  rintro e w' ⟨rfl, ⟨nd, rfl⟩⟩
                  refine ⟨_, rfl, ?_⟩
                  refine hK.out _ _ ⟨(blk_cell BK109.out 0).trans rfl, (blk_cell BK109.out 1).trans rfl, (blk_cell BK109.out 2).trans rfl, (blk_cell BK109.out 3).trans rfl, (blk_cell BK109.out 4).trans rfl⟩ (fun hHeld => ?_)
                  clear hK K
                  refine norm_ (a' := ?_) ?_ ?_
                  rotate_left
                  · show Act.put _ (some 8) _ = _
                    simp only [Act.put, List.setIfInBounds_toArray, List.set_cons_zero, List.set_cons_succ, i64_w, i32_w]
                    rfl
                  refine pure_ (i := 6) (N := some 9) (v := ?_) (a' := ?_) #[true, true, true, true, true, true, true] rfl rfl (by kernel_rfl) (fun _ _ _ h => h) (Or.inl ⟨by rfl, ?_⟩) ?_ ?_
                  rotate_left
                  · intro w'
                    go_simp
                    with_reducible rfl
                  rotate_left
                  · simp only [Act.put, List.setIfInBounds_toArray, List.set_cons_zero, List.set_cons_succ, i64_w, i32_w]
                    rfl
                  refine done_ (by kernel_rfl) ?_
                  have hcz35_0 : w34.cell? ⟨gb109, 0, none⟩ = some (.int .i64 a0_0) := (blk_cell BK109.out 0).trans rfl
                  have hcz35_1 : w34.cell? ⟨gb109, 1, none⟩ = some (.int .i64 a0_1) := (blk_cell BK109.out 1).trans rfl
                  have hcz35_2 : w34.cell? ⟨gb109, 2, none⟩ = some (.int .i64 a0_2) := (blk_cell BK109.out 2).trans rfl
                  have hcz35_3 : w34.cell? ⟨gb109, 3, none⟩ = some (.string a0_3) := (blk_cell BK109.out 3).trans rfl
                  have hcz35_4 : w34.cell? ⟨gb109, 4, none⟩ = some (.slice A0_4 l0_4.length c0_4) := (blk_cell BK109.out 4).trans rfl
                  have hfz35_0 := blk_frozen BK109.out 0
                  have hfz35_1 := blk_frozen BK109.out 1
                  have hfz35_2 := blk_frozen BK109.out 2
                  have hfz35_3 := blk_frozen BK109.out 3
                  have hfz35_4 := blk_frozen BK109.out 4
                  have p115 : 0 ≤ (0 : Int) := (by omega)
                  have q115 : 0 < (l0_4.length : Int) := of_decide_eq_true (by first | (with_reducible assumption) | assumption)
                  obtain ⟨ad115, A115_4, c115_4, e115, hx115_0, hx115_1, hx115_2, hx115_3, hx115_4, hl115_4, hi115_4⟩ := at_T26 HR0_4.out 0 p115 q115
                  cases e115
                  have qi115 : (0 < l0_4.length) = True := eq_true (by omega)
                  (try rw [show ((0 : Int)).toNat = 0 from rfl] at hx115_0)
                  (try rw [show 0 * 5 = 0 from rfl] at hx115_0)
                  (try rw [Addr.add_zero'] at hx115_0)
                  (try rw [show ((0 : Int)).toNat = 0 from rfl] at hx115_1)
                  (try rw [show 0 * 5 = 0 from rfl] at hx115_1)
                  (try rw [Addr.add_zero'] at hx115_1)
                  (try rw [show ((0 : Int)).toNat = 0 from rfl] at hx115_2)
                  (try rw [show 0 * 5 = 0 from rfl] at hx115_2)
                  (try rw [Addr.add_zero'] at hx115_2)
                  (try rw [show ((0 : Int)).toNat = 0 from rfl] at hx115_3)
                  (try rw [show 0 * 5 = 0 from rfl] at hx115_3)
                  (try rw [Addr.add_zero'] at hx115_3)
                  (try rw [show ((0 : Int)).toNat = 0 from rfl] at hx115_4)
                  (try rw [show 0 * 5 = 0 from rfl] at hx115_4)
                  (try rw [Addr.add_zero'] at hx115_4)
                  replace hx115_0 := (HB.out.cell (World.block_lt_of_cell? w _ hx115_0)).trans hx115_0
                  replace hx115_1 := (HB.out.cell (World.block_lt_of_cell? w _ hx115_1)).trans hx115_1
                  replace hx115_2 := (HB.out.cell (World.block_lt_of_cell? w _ hx115_2)).trans hx115_2
                  replace hx115_3 := (HB.out.cell (World.block_lt_of_cell? w _ hx115_3)).trans hx115_3
                  replace hx115_4 := (HB.out.cell (World.block_lt_of_cell? w _ hx115_4)).trans hx115_4
                  have HR115_4 := Aside0.mk hi115_4
                  have HC115_4 := Aside0.mk hl115_4
                  clear hi115_4 hl115_4
                  replace p115 := eq_true p115
                  replace q115 := eq_true q115
                  try go_wp2_with (first | ((with_reducible refine gate_callee (f := 26) rfl ?_); refine goesL_ (some 41) rfl rfl Tryd.func26 (by kernel_rfl) rfl #[.agg #[.int .i64 ((rd_T26 l0_4 0).f0), .int .i64 ((rd_T26 l0_4 0).f1), .int .i64 ((rd_T26 l0_4 0).f2), .string ((rd_T26 l0_4 0).f3), .slice A115_4 ((rd_T26 l0_4 0).f4).length c115_4]] rfl (by (try simp only [List.map_toArray, List.map_cons, List.map_nil]); first | done | rfl | (simp only [List.length_drop, List.length_take]; rfl)) ?_; (with_reducible refine (show_in.calls (show_Expr.f k) (ih k (by omega)) k ((rd_T26 l0_4 0).f0) ((rd_T26 l0_4 0).f1) ((rd_T26 l0_4 0).f2) ((rd_T26 l0_4 0).f3) _ _ ((rd_T26 l0_4 0).f4) t116 _ ?side1 ?side2 ?side3 A31.out).mono ?_); (case side1 => repeat (first | exact (Kd.C_below HR115_4.out (by repeat (first | (with_reducible first | exact HB.out | apply below_alloc | apply pw_below_drewN | apply below_drew1 | refine below_set ?_ GE109.out) | exact HB.out))) | (with_reducible refine Kd.C_alloc ?_ _) | (with_reducible refine Kd.C_drewN ?_ _) | (with_reducible refine Kd.C_drew ?_))); (case side2 => exact HC115_4.out); (case side3 => exact GlobW.below HG.out (by repeat (first | (with_reducible first | exact HB.out | apply below_alloc | apply pw_below_drewN | apply below_drew1 | refine below_set ?_ GE109.out) | exact HB.out))); rintro e w36 ⟨rfl, hb⟩; refine ⟨_, rfl, ?_⟩; have n0_ := Aside0.mk (blk_below (g := gb109) (o := .cells #[.int .i64 a0_0, .int .i64 a0_1, .int .i64 a0_2, .string a0_3, .slice (some ad115) l0_4.length c0_4] 26 (0, 0)) (by (with_reducible repeat (first | refine blk_drewN ?_ _ | refine blk_drew ?_ | refine blk_alloc ?_ _)); exact BK109.out) hb); have n1_ := Aside0.mk (below_step (by repeat (first | (with_reducible first | exact HB.out | apply below_alloc | apply pw_below_drewN | apply below_drew1 | refine below_set ?_ GE109.out) | exact HB.out)) hb); clear BK109; clear HB; have BK109 := n0_; have HB := n1_; clear n0_ n1_; (try clear hb); (try clear hb2); (try clear hk); (try clear hi)))
                  go_ret
                  exact ⟨by first | rfl | (simp [errW_none, errW_some] <;> rfl) | (simp [*, errW_none, errW_some] <;> rfl), by repeat (first | (with_reducible first | exact HB.out | apply below_alloc | apply pw_below_drewN | apply below_drew1 | refine below_set ?_ GE109.out) | exact HB.out)⟩
                · rw [if_neg c32] at H
                  exact absurd H (by simp)
              · rw [if_neg c30] at H
                exact absurd H (by simp)
            · rw [if_neg c29] at H
              have c29b0 : (a0_0 == 5) = false := beq_eq_false_iff_ne.mpr c29
              have c29b1 : (a0_0 != 5) = true := bne_iff_ne.mpr c29
              by_cases c37 : a0_0 = 23
              · rw [if_pos c37] at H
                have c37b0 : (a0_0 == 23) = true := beq_iff_eq.mpr c37
                have c37b1 : (a0_0 != 23) = false := bne_eq_false_iff_eq.mpr c37
                clear c37
                by_cases c38 : 0 < (l0_4.length : Int)
                · rw [if_pos c38] at H
                  have c38b0 : decide (0 < (l0_4.length : Int)) = true := decide_eq_true c38
                  have c38b1 : decide (0 < l0_4.length) = true := decide_eq_true (by omega)
                  clear c38
                  replace H := Option.bind_eq_some_iff.mp H
                  obtain ⟨t118, A390, H⟩ := H
                  replace H : (if 4 + t118.size ≤ 9223372036854775807 then (some ((⟨#[112, 114, 101, 32]⟩ : ByteArray) ++ t118)) else (none)) = some r := H
                  have A39 := Aside0.mk A390
                  clear A390
                  by_cases c40 : 4 + t118.size ≤ 9223372036854775807
                  · rw [if_pos c40] at H
                    have c40b0 := eq_true c40
                    have c40b1 : decide (4 + t118.size ≤ 9223372036854775807) = true := decide_eq_true c40
                    try have c40b2 : (9223372036854775807 < 4 + t118.size) = False := eq_false (Nat.not_lt.2 c40)
                    obtain rfl := Option.some.inj H
                    simp only [Option.some.injEq, Prod.mk.injEq] at H
                    obtain ⟨rfl⟩ := H
                    go_enter Tryd.func9, Tryd.ntmps9
                    try go_wp2_with (first | ((with_reducible refine gate_dst (N := 1) rfl ?_); refine box_event ?hg (N := 1) ?hd (cs := #[.int .i64 a0_0, .int .i64 a0_1, .int .i64 a0_2, .string a0_3, .slice A0_4 l0_4.length c0_4]) (t := 26) ?hr ?_; (case hd => rfl); (case hg => rfl); (case hr => first | (go_simp; done) | (go_simp; rfl)); intro gb109 hg w41 hbox hb; have n0_ := Aside0.mk (below_step (by repeat (first | (with_reducible first | exact HB.out | apply below_alloc | apply pw_below_drewN | apply below_drew1) | exact HB.out)) hb); have n1_ := Aside0.mk (hbox); have n2_ := Aside0.mk ((by rw [hg]; exact (below_size (by repeat (first | (with_reducible first | exact HB.out | apply below_alloc | apply pw_below_drewN | apply below_drew1) | exact HB.out))) : w.heap.size ≤ gb109)); have n3_ := Aside0.mk ((by rw [hg]; exact (below_size (by repeat (first | (with_reducible first | exact HB.out | apply below_alloc | apply pw_below_drewN | apply below_drew1) | exact HB.out))) : w.heap.size ≤ gb109)); clear HB; have HB := n0_; have BK109 := n1_; have GW109 := n2_; have GE109 := n3_; clear n0_ n1_ n2_ n3_; clear hb hbox hg))
                    have n0_ := Aside0.mk (blk_drew BK109.out)
                    have n1_ := Aside0.mk (below_drew1 HB.out)
                    clear BK109
                    clear HB
                    have BK109 := n0_
                    have HB := n1_
                    clear n0_ n1_
                    refine start_ (n := 7) (S := fun w' => w'.cell? ⟨gb109, 0, none⟩ = some (.int .i64 a0_0) ∧ w'.cell? ⟨gb109, 1, none⟩ = some (.int .i64 a0_1) ∧ w'.cell? ⟨gb109, 2, none⟩ = some (.int .i64 a0_2) ∧ w'.cell? ⟨gb109, 3, none⟩ = some (.string a0_3) ∧ w'.cell? ⟨gb109, 4, none⟩ = some (.slice A0_4 l0_4.length c0_4)) (ds := []) #[false, false, false, false, false, false, false] (by kernel_rfl) rfl rfl ⟨(blk_cell BK109.out 0).trans rfl, (blk_cell BK109.out 1).trans rfl, (blk_cell BK109.out 2).trans rfl, (blk_cell BK109.out 3).trans rfl, (blk_cell BK109.out 4).trans rfl⟩ (fun hHeld => ?_)
                    generalize w41.drew = w42 at BK109 HB hHeld ⊢
                    refine pure_ (i := 0) (N := some 3) (v := ?_) (a' := ?_) #[true, false, false, false, false, false, false] rfl rfl (by kernel_rfl) (fun _ _ _ h => h) (Or.inl ⟨by rfl, ?_⟩) ?_ ?_
                    rotate_left
                    · intro w'
                      go_simp
                      with_reducible rfl
                    rotate_left
                    · simp only [Act.put, List.setIfInBounds_toArray, List.set_cons_zero, List.set_cons_succ, i64_w, i32_w]
                      rfl
                    refine pure_ (i := 3) (N := some 6) (v := ?_) (a' := ?_) #[true, false, false, true, false, false, false] rfl rfl (by kernel_rfl) (fun _ _ _ h => h) (Or.inl ⟨by rfl, ?_⟩) ?_ ?_
                    rotate_left
                    · intro w'
                      go_simp
                      with_reducible rfl
                    rotate_left
                    · simp only [Act.put, List.setIfInBounds_toArray, List.set_cons_zero, List.set_cons_succ, i64_w, i32_w]
                      rfl
                    refine take_ (i := 1) (N := some 4) (v := ?_) (a' := ?_) #[true, true, false, true, false, false, false] rfl rfl (by kernel_rfl) (fun _ _ _ h => h) (Or.inl ⟨by rfl, ?_⟩) hHeld ?_ ?_
                    rotate_left
                    · rintro w' ⟨s0, s1, s2, s3, s4⟩
                      go_simp
                      with_reducible rfl
                    rotate_left
                    · simp only [Act.put, List.setIfInBounds_toArray, List.set_cons_zero, List.set_cons_succ, i64_w, i32_w]
                      rfl
                    refine pure_ (i := 2) (N := some 5) (v := ?_) (a' := ?_) #[true, true, true, true, false, false, false] rfl rfl (by kernel_rfl) (fun _ _ _ h => h) (Or.inl ⟨by rfl, ?_⟩) ?_ ?_
                    rotate_left
                    · intro w'
                      go_simp
                      with_reducible rfl
                    rotate_left
                    · simp only [Act.put, List.setIfInBounds_toArray, List.set_cons_zero, List.set_cons_succ, i64_w, i32_w]
                      rfl
                    refine take_ (i := 4) (N := some 7) (v := ?_) (a' := ?_) #[true, true, true, true, true, false, false] rfl rfl (by kernel_rfl) (fun _ _ _ h => h) (Or.inl ⟨by rfl, ?_⟩) hHeld ?_ ?_
                    rotate_left
                    · rintro w' ⟨s0, s1, s2, s3, s4⟩
                      go_simp
                      with_reducible rfl
                    rotate_left
                    · simp only [Act.put, List.setIfInBounds_toArray, List.set_cons_zero, List.set_cons_succ, i64_w, i32_w]
                      rfl
                    refine one_ (i := 5) (N := some 8) #[true, true, true, true, true, true, false] rfl rfl (by kernel_rfl) (by decide) (fun K hK => ?_)
                    refine goes_ Tryd.func23 (by kernel_rfl) rfl #[.int .i64 a0_0] (by rfl) rfl rfl (by (try simp only [List.map_toArray, List.map_cons, List.map_nil]); first | done | rfl | (simp only [List.length_drop, List.length_take]; rfl)) ?_
                    with_reducible refine (show_few.calls k a0_0 t110 _ A2.out).mono ?_
                    rintro e w' ⟨rfl, ⟨nd, rfl⟩⟩
                    refine ⟨_, rfl, ?_⟩
                    refine hK.out _ _ ⟨(blk_cell BK109.out 0).trans rfl, (blk_cell BK109.out 1).trans rfl, (blk_cell BK109.out 2).trans rfl, (blk_cell BK109.out 3).trans rfl, (blk_cell BK109.out 4).trans rfl⟩ (fun hHeld => ?_)
                    clear hK K
                    refine norm_ (a' := ?_) ?_ ?_
                    rotate_left
                    · show Act.put _ (some 8) _ = _
                      simp only [Act.put, List.setIfInBounds_toArray, List.set_cons_zero, List.set_cons_succ, i64_w, i32_w]
                      rfl
                    refine pure_ (i := 6) (N := some 9) (v := ?_) (a' := ?_) #[true, true, true, true, true, true, true] rfl rfl (by kernel_rfl) (fun _ _ _ h => h) (Or.inl ⟨by rfl, ?_⟩) ?_ ?_
                    rotate_left
                    · intro w'
                      go_simp
                      with_reducible rfl
                    rotate_left
                    · simp only [Act.put, List.setIfInBounds_toArray, List.set_cons_zero, List.set_cons_succ, i64_w, i32_w]
                      rfl
                    refine done_ (by kernel_rfl) ?_
                    have hcz43_0 : w42.cell? ⟨gb109, 0, none⟩ = some (.int .i64 a0_0) := (blk_cell BK109.out 0).trans rfl
                    have hcz43_1 : w42.cell? ⟨gb109, 1, none⟩ = some (.int .i64 a0_1) := (blk_cell BK109.out 1).trans rfl
                    have hcz43_2 : w42.cell? ⟨gb109, 2, none⟩ = some (.int .i64 a0_2) := (blk_cell BK109.out 2).trans rfl
                    have hcz43_3 : w42.cell? ⟨gb109, 3, none⟩ = some (.string a0_3) := (blk_cell BK109.out 3).trans rfl
                    have hcz43_4 : w42.cell? ⟨gb109, 4, none⟩ = some (.slice A0_4 l0_4.length c0_4) := (blk_cell BK109.out 4).trans rfl
                    have hfz43_0 := blk_frozen BK109.out 0
                    have hfz43_1 := blk_frozen BK109.out 1
                    have hfz43_2 := blk_frozen BK109.out 2
                    have hfz43_3 := blk_frozen BK109.out 3
                    have hfz43_4 := blk_frozen BK109.out 4
                    have p117 : 0 ≤ (0 : Int) := (by omega)
                    have q117 : 0 < (l0_4.length : Int) := of_decide_eq_true (by first | (with_reducible assumption) | assumption)
                    obtain ⟨ad117, A117_4, c117_4, e117, hx117_0, hx117_1, hx117_2, hx117_3, hx117_4, hl117_4, hi117_4⟩ := at_T26 HR0_4.out 0 p117 q117
                    cases e117
                    have qi117 : (0 < l0_4.length) = True := eq_true (by omega)
                    (try rw [show ((0 : Int)).toNat = 0 from rfl] at hx117_0)
                    (try rw [show 0 * 5 = 0 from rfl] at hx117_0)
                    (try rw [Addr.add_zero'] at hx117_0)
                    (try rw [show ((0 : Int)).toNat = 0 from rfl] at hx117_1)
                    (try rw [show 0 * 5 = 0 from rfl] at hx117_1)
                    (try rw [Addr.add_zero'] at hx117_1)
                    (try rw [show ((0 : Int)).toNat = 0 from rfl] at hx117_2)
                    (try rw [show 0 * 5 = 0 from rfl] at hx117_2)
                    (try rw [Addr.add_zero'] at hx117_2)
                    (try rw [show ((0 : Int)).toNat = 0 from rfl] at hx117_3)
                    (try rw [show 0 * 5 = 0 from rfl] at hx117_3)
                    (try rw [Addr.add_zero'] at hx117_3)
                    (try rw [show ((0 : Int)).toNat = 0 from rfl] at hx117_4)
                    (try rw [show 0 * 5 = 0 from rfl] at hx117_4)
                    (try rw [Addr.add_zero'] at hx117_4)
                    replace hx117_0 := (HB.out.cell (World.block_lt_of_cell? w _ hx117_0)).trans hx117_0
                    replace hx117_1 := (HB.out.cell (World.block_lt_of_cell? w _ hx117_1)).trans hx117_1
                    replace hx117_2 := (HB.out.cell (World.block_lt_of_cell? w _ hx117_2)).trans hx117_2
                    replace hx117_3 := (HB.out.cell (World.block_lt_of_cell? w _ hx117_3)).trans hx117_3
                    replace hx117_4 := (HB.out.cell (World.block_lt_of_cell? w _ hx117_4)).trans hx117_4
                    have HR117_4 := Aside0.mk hi117_4
                    have HC117_4 := Aside0.mk hl117_4
                    clear hi117_4 hl117_4
                    replace p117 := eq_true p117
                    replace q117 := eq_true q117
                    try go_wp2_with (first | ((with_reducible refine gate_callee (f := 26) rfl ?_); refine goesL_ (some 49) rfl rfl Tryd.func26 (by kernel_rfl) rfl #[.agg #[.int .i64 ((rd_T26 l0_4 0).f0), .int .i64 ((rd_T26 l0_4 0).f1), .int .i64 ((rd_T26 l0_4 0).f2), .string ((rd_T26 l0_4 0).f3), .slice A117_4 ((rd_T26 l0_4 0).f4).length c117_4]] rfl (by (try simp only [List.map_toArray, List.map_cons, List.map_nil]); first | done | rfl | (simp only [List.length_drop, List.length_take]; rfl)) ?_; (with_reducible refine (show_in.calls (show_Expr.f k) (ih k (by omega)) k ((rd_T26 l0_4 0).f0) ((rd_T26 l0_4 0).f1) ((rd_T26 l0_4 0).f2) ((rd_T26 l0_4 0).f3) _ _ ((rd_T26 l0_4 0).f4) t118 _ ?side1 ?side2 ?side3 A39.out).mono ?_); (case side1 => repeat (first | exact (Kd.C_below HR117_4.out (by repeat (first | (with_reducible first | exact HB.out | apply below_alloc | apply pw_below_drewN | apply below_drew1 | refine below_set ?_ GE109.out) | exact HB.out))) | (with_reducible refine Kd.C_alloc ?_ _) | (with_reducible refine Kd.C_drewN ?_ _) | (with_reducible refine Kd.C_drew ?_))); (case side2 => exact HC117_4.out); (case side3 => exact GlobW.below HG.out (by repeat (first | (with_reducible first | exact HB.out | apply below_alloc | apply pw_below_drewN | apply below_drew1 | refine below_set ?_ GE109.out) | exact HB.out))); rintro e w44 ⟨rfl, hb⟩; refine ⟨_, rfl, ?_⟩; have n0_ := Aside0.mk (blk_below (g := gb109) (o := .cells #[.int .i64 a0_0, .int .i64 a0_1, .int .i64 a0_2, .string a0_3, .slice (some ad117) l0_4.length c0_4] 26 (0, 0)) (by (with_reducible repeat (first | refine blk_drewN ?_ _ | refine blk_drew ?_ | refine blk_alloc ?_ _)); exact BK109.out) hb); have n1_ := Aside0.mk (below_step (by repeat (first | (with_reducible first | exact HB.out | apply below_alloc | apply pw_below_drewN | apply below_drew1 | refine below_set ?_ GE109.out) | exact HB.out)) hb); clear BK109; clear HB; have BK109 := n0_; have HB := n1_; clear n0_ n1_; (try clear hb); (try clear hb2); (try clear hk); (try clear hi)))
                    go_ret
                    exact ⟨by first | rfl | (simp [errW_none, errW_some] <;> rfl) | (simp [*, errW_none, errW_some] <;> rfl), by repeat (first | (with_reducible first | exact HB.out | apply below_alloc | apply pw_below_drewN | apply below_drew1 | refine below_set ?_ GE109.out) | exact HB.out)⟩
                  · rw [if_neg c40] at H
                    exact absurd H (by simp)
                · rw [if_neg c38] at H
                  exact absurd H (by simp)
              · rw [if_neg c37] at H
                have c37b0 : (a0_0 == 23) = false := beq_eq_false_iff_ne.mpr c37
                have c37b1 : (a0_0 != 23) = true := bne_iff_ne.mpr c37
                by_cases c45 : a0_0 = 20
                · rw [if_pos c45] at H
                  have c45b0 : (a0_0 == 20) = true := beq_iff_eq.mpr c45
                  have c45b1 : (a0_0 != 20) = false := bne_eq_false_iff_eq.mpr c45
                  clear c45
                  by_cases c46 : 0 < (l0_4.length : Int)
                  · rw [if_pos c46] at H
                    have c46b0 : decide (0 < (l0_4.length : Int)) = true := decide_eq_true c46
                    have c46b1 : decide (0 < l0_4.length) = true := decide_eq_true (by omega)
                    clear c46
                    replace H := Option.bind_eq_some_iff.mp H
                    obtain ⟨t120, A470, H⟩ := H
                    replace H : (if 3 + t120.size ≤ 9223372036854775807 then (if ((⟨#[105, 102, 32]⟩ : ByteArray) ++ t120).size + 6 ≤ 9223372036854775807 then (if 1 < (l0_4.length : Int) then ((show_in.f (show_Expr.f k) k ((rd_T26 l0_4 1).f0) ((rd_T26 l0_4 1).f1) ((rd_T26 l0_4 1).f2) ((rd_T26 l0_4 1).f3) ((rd_T26 l0_4 1).f4)).bind fun t122 => (if (((⟨#[105, 102, 32]⟩ : ByteArray) ++ t120) ++ (⟨#[32, 116, 104, 101, 110, 32]⟩ : ByteArray)).size + t122.size ≤ 9223372036854775807 then (if ((((⟨#[105, 102, 32]⟩ : ByteArray) ++ t120) ++ (⟨#[32, 116, 104, 101, 110, 32]⟩ : ByteArray)) ++ t122).size + 6 ≤ 9223372036854775807 then (if 2 < (l0_4.length : Int) then ((show_in.f (show_Expr.f k) k ((rd_T26 l0_4 2).f0) ((rd_T26 l0_4 2).f1) ((rd_T26 l0_4 2).f2) ((rd_T26 l0_4 2).f3) ((rd_T26 l0_4 2).f4)).bind fun t124 => (if (((((⟨#[105, 102, 32]⟩ : ByteArray) ++ t120) ++ (⟨#[32, 116, 104, 101, 110, 32]⟩ : ByteArray)) ++ t122) ++ (⟨#[32, 101, 108, 115, 101, 32]⟩ : ByteArray)).size + t124.size ≤ 9223372036854775807 then (some ((((((⟨#[105, 102, 32]⟩ : ByteArray) ++ t120) ++ (⟨#[32, 116, 104, 101, 110, 32]⟩ : ByteArray)) ++ t122) ++ (⟨#[32, 101, 108, 115, 101, 32]⟩ : ByteArray)) ++ t124)) else (none))) else (none)) else (none)) else (none))) else (none)) else (none)) else (none)) = some r := H
                    have A47 := Aside0.mk A470
                    clear A470
                    by_cases c48 : 3 + t120.size ≤ 9223372036854775807
                    · rw [if_pos c48] at H
                      have c48b0 := eq_true c48
                      have c48b1 : decide (3 + t120.size ≤ 9223372036854775807) = true := decide_eq_true c48
                      try have c48b2 : (9223372036854775807 < 3 + t120.size) = False := eq_false (Nat.not_lt.2 c48)
                      by_cases c49 : ((⟨#[105, 102, 32]⟩ : ByteArray) ++ t120).size + 6 ≤ 9223372036854775807
                      · rw [if_pos c49] at H
                        have c49b0 := eq_true c49
                        have c49b1 : decide (((⟨#[105, 102, 32]⟩ : ByteArray) ++ t120).size + 6 ≤ 9223372036854775807) = true := decide_eq_true c49
                        try have c49b2 : (9223372036854775807 < ((⟨#[105, 102, 32]⟩ : ByteArray) ++ t120).size + 6) = False := eq_false (Nat.not_lt.2 c49)
                        (try (have c49b4 := c49b2; simp only [ByteArray.size_append, show (⟨#[105, 102, 32]⟩ : ByteArray).size = 3 from rfl] at c49b4))
                        by_cases c50 : 1 < (l0_4.length : Int)
                        · rw [if_pos c50] at H
                          have c50b0 : decide (1 < (l0_4.length : Int)) = true := decide_eq_true c50
                          have c50b1 : decide (1 < l0_4.length) = true := decide_eq_true (by omega)
                          clear c50
                          replace H := Option.bind_eq_some_iff.mp H
                          obtain ⟨t122, A510, H⟩ := H
                          replace H : (if (((⟨#[105, 102, 32]⟩ : ByteArray) ++ t120) ++ (⟨#[32, 116, 104, 101, 110, 32]⟩ : ByteArray)).size + t122.size ≤ 9223372036854775807 then (if ((((⟨#[105, 102, 32]⟩ : ByteArray) ++ t120) ++ (⟨#[32, 116, 104, 101, 110, 32]⟩ : ByteArray)) ++ t122).size + 6 ≤ 9223372036854775807 then (if 2 < (l0_4.length : Int) then ((show_in.f (show_Expr.f k) k ((rd_T26 l0_4 2).f0) ((rd_T26 l0_4 2).f1) ((rd_T26 l0_4 2).f2) ((rd_T26 l0_4 2).f3) ((rd_T26 l0_4 2).f4)).bind fun t124 => (if (((((⟨#[105, 102, 32]⟩ : ByteArray) ++ t120) ++ (⟨#[32, 116, 104, 101, 110, 32]⟩ : ByteArray)) ++ t122) ++ (⟨#[32, 101, 108, 115, 101, 32]⟩ : ByteArray)).size + t124.size ≤ 9223372036854775807 then (some ((((((⟨#[105, 102, 32]⟩ : ByteArray) ++ t120) ++ (⟨#[32, 116, 104, 101, 110, 32]⟩ : ByteArray)) ++ t122) ++ (⟨#[32, 101, 108, 115, 101, 32]⟩ : ByteArray)) ++ t124)) else (none))) else (none)) else (none)) else (none)) = some r := H
                          have A51 := Aside0.mk A510
                          clear A510
                          by_cases c52 : (((⟨#[105, 102, 32]⟩ : ByteArray) ++ t120) ++ (⟨#[32, 116, 104, 101, 110, 32]⟩ : ByteArray)).size + t122.size ≤ 9223372036854775807
                          · rw [if_pos c52] at H
                            have c52b0 := eq_true c52
                            have c52b1 : decide ((((⟨#[105, 102, 32]⟩ : ByteArray) ++ t120) ++ (⟨#[32, 116, 104, 101, 110, 32]⟩ : ByteArray)).size + t122.size ≤ 9223372036854775807) = true := decide_eq_true c52
                            try have c52b2 : (9223372036854775807 < (((⟨#[105, 102, 32]⟩ : ByteArray) ++ t120) ++ (⟨#[32, 116, 104, 101, 110, 32]⟩ : ByteArray)).size + t122.size) = False := eq_false (Nat.not_lt.2 c52)
                            (try (have c52b4 := c52b2; simp only [ByteArray.size_append, show (⟨#[105, 102, 32]⟩ : ByteArray).size = 3 from rfl, show (⟨#[32, 116, 104, 101, 110, 32]⟩ : ByteArray).size = 6 from rfl] at c52b4))
                            by_cases c53 : ((((⟨#[105, 102, 32]⟩ : ByteArray) ++ t120) ++ (⟨#[32, 116, 104, 101, 110, 32]⟩ : ByteArray)) ++ t122).size + 6 ≤ 9223372036854775807
                            · rw [if_pos c53] at H
                              have c53b0 := eq_true c53
                              have c53b1 : decide (((((⟨#[105, 102, 32]⟩ : ByteArray) ++ t120) ++ (⟨#[32, 116, 104, 101, 110, 32]⟩ : ByteArray)) ++ t122).size + 6 ≤ 9223372036854775807) = true := decide_eq_true c53
                              try have c53b2 : (9223372036854775807 < ((((⟨#[105, 102, 32]⟩ : ByteArray) ++ t120) ++ (⟨#[32, 116, 104, 101, 110, 32]⟩ : ByteArray)) ++ t122).size + 6) = False := eq_false (Nat.not_lt.2 c53)
                              (try (have c53b4 := c53b2; simp only [ByteArray.size_append, show (⟨#[105, 102, 32]⟩ : ByteArray).size = 3 from rfl, show (⟨#[32, 116, 104, 101, 110, 32]⟩ : ByteArray).size = 6 from rfl] at c53b4))
                              by_cases c54 : 2 < (l0_4.length : Int)
                              · rw [if_pos c54] at H
                                have c54b0 : decide (2 < (l0_4.length : Int)) = true := decide_eq_true c54
                                have c54b1 : decide (2 < l0_4.length) = true := decide_eq_true (by omega)
                                clear c54
                                replace H := Option.bind_eq_some_iff.mp H
                                obtain ⟨t124, A550, H⟩ := H
                                replace H : (if (((((⟨#[105, 102, 32]⟩ : ByteArray) ++ t120) ++ (⟨#[32, 116, 104, 101, 110, 32]⟩ : ByteArray)) ++ t122) ++ (⟨#[32, 101, 108, 115, 101, 32]⟩ : ByteArray)).size + t124.size ≤ 9223372036854775807 then (some ((((((⟨#[105, 102, 32]⟩ : ByteArray) ++ t120) ++ (⟨#[32, 116, 104, 101, 110, 32]⟩ : ByteArray)) ++ t122) ++ (⟨#[32, 101, 108, 115, 101, 32]⟩ : ByteArray)) ++ t124)) else (none)) = some r := H
                                have A55 := Aside0.mk A550
                                clear A550
                                by_cases c56 : (((((⟨#[105, 102, 32]⟩ : ByteArray) ++ t120) ++ (⟨#[32, 116, 104, 101, 110, 32]⟩ : ByteArray)) ++ t122) ++ (⟨#[32, 101, 108, 115, 101, 32]⟩ : ByteArray)).size + t124.size ≤ 9223372036854775807
                                · rw [if_pos c56] at H
                                  have c56b0 := eq_true c56
                                  have c56b1 : decide ((((((⟨#[105, 102, 32]⟩ : ByteArray) ++ t120) ++ (⟨#[32, 116, 104, 101, 110, 32]⟩ : ByteArray)) ++ t122) ++ (⟨#[32, 101, 108, 115, 101, 32]⟩ : ByteArray)).size + t124.size ≤ 9223372036854775807) = true := decide_eq_true c56
                                  try have c56b2 : (9223372036854775807 < (((((⟨#[105, 102, 32]⟩ : ByteArray) ++ t120) ++ (⟨#[32, 116, 104, 101, 110, 32]⟩ : ByteArray)) ++ t122) ++ (⟨#[32, 101, 108, 115, 101, 32]⟩ : ByteArray)).size + t124.size) = False := eq_false (Nat.not_lt.2 c56)
                                  (try (have c56b4 := c56b2; simp only [ByteArray.size_append, show (⟨#[105, 102, 32]⟩ : ByteArray).size = 3 from rfl, show (⟨#[32, 116, 104, 101, 110, 32]⟩ : ByteArray).size = 6 from rfl, show (⟨#[32, 101, 108, 115, 101, 32]⟩ : ByteArray).size = 6 from rfl] at c56b4))
                                  obtain rfl := Option.some.inj H
                                  simp only [Option.some.injEq, Prod.mk.injEq] at H
                                  obtain ⟨rfl⟩ := H
                                  go_enter Tryd.func9, Tryd.ntmps9
                                  try go_wp2_with (first | ((with_reducible refine gate_dst (N := 1) rfl ?_); refine box_event ?hg (N := 1) ?hd (cs := #[.int .i64 a0_0, .int .i64 a0_1, .int .i64 a0_2, .string a0_3, .slice A0_4 l0_4.length c0_4]) (t := 26) ?hr ?_; (case hd => rfl); (case hg => rfl); (case hr => first | (go_simp; done) | (go_simp; rfl)); intro gb109 hg w57 hbox hb; have n0_ := Aside0.mk (below_step (by repeat (first | (with_reducible first | exact HB.out | apply below_alloc | apply pw_below_drewN | apply below_drew1) | exact HB.out)) hb); have n1_ := Aside0.mk (hbox); have n2_ := Aside0.mk ((by rw [hg]; exact (below_size (by repeat (first | (with_reducible first | exact HB.out | apply below_alloc | apply pw_below_drewN | apply below_drew1) | exact HB.out))) : w.heap.size ≤ gb109)); have n3_ := Aside0.mk ((by rw [hg]; exact (below_size (by repeat (first | (with_reducible first | exact HB.out | apply below_alloc | apply pw_below_drewN | apply below_drew1) | exact HB.out))) : w.heap.size ≤ gb109)); clear HB; have HB := n0_; have BK109 := n1_; have GW109 := n2_; have GE109 := n3_; clear n0_ n1_ n2_ n3_; clear hb hbox hg))
                                  have n0_ := Aside0.mk (blk_drew BK109.out)
                                  have n1_ := Aside0.mk (below_drew1 HB.out)
                                  clear BK109
                                  clear HB
                                  have BK109 := n0_
                                  have HB := n1_
                                  clear n0_ n1_
                                  refine start_ (n := 7) (S := fun w' => w'.cell? ⟨gb109, 0, none⟩ = some (.int .i64 a0_0) ∧ w'.cell? ⟨gb109, 1, none⟩ = some (.int .i64 a0_1) ∧ w'.cell? ⟨gb109, 2, none⟩ = some (.int .i64 a0_2) ∧ w'.cell? ⟨gb109, 3, none⟩ = some (.string a0_3) ∧ w'.cell? ⟨gb109, 4, none⟩ = some (.slice A0_4 l0_4.length c0_4)) (ds := []) #[false, false, false, false, false, false, false] (by kernel_rfl) rfl rfl ⟨(blk_cell BK109.out 0).trans rfl, (blk_cell BK109.out 1).trans rfl, (blk_cell BK109.out 2).trans rfl, (blk_cell BK109.out 3).trans rfl, (blk_cell BK109.out 4).trans rfl⟩ (fun hHeld => ?_)
                                  generalize w57.drew = w58 at BK109 HB hHeld ⊢
                                  refine pure_ (i := 0) (N := some 3) (v := ?_) (a' := ?_) #[true, false, false, false, false, false, false] rfl rfl (by kernel_rfl) (fun _ _ _ h => h) (Or.inl ⟨by rfl, ?_⟩) ?_ ?_
                                  rotate_left
                                  · intro w'
                                    go_simp
                                    with_reducible rfl
                                  rotate_left
                                  · simp only [Act.put, List.setIfInBounds_toArray, List.set_cons_zero, List.set_cons_succ, i64_w, i32_w]
                                    rfl
                                  refine pure_ (i := 3) (N := some 6) (v := ?_) (a' := ?_) #[true, false, false, true, false, false, false] rfl rfl (by kernel_rfl) (fun _ _ _ h => h) (Or.inl ⟨by rfl, ?_⟩) ?_ ?_
                                  rotate_left
                                  · intro w'
                                    go_simp
                                    with_reducible rfl
                                  rotate_left
                                  · simp only [Act.put, List.setIfInBounds_toArray, List.set_cons_zero, List.set_cons_succ, i64_w, i32_w]
                                    rfl
                                  refine take_ (i := 1) (N := some 4) (v := ?_) (a' := ?_) #[true, true, false, true, false, false, false] rfl rfl (by kernel_rfl) (fun _ _ _ h => h) (Or.inl ⟨by rfl, ?_⟩) hHeld ?_ ?_
                                  rotate_left
                                  · rintro w' ⟨s0, s1, s2, s3, s4⟩
                                    go_simp
                                    with_reducible rfl
                                  rotate_left
                                  · simp only [Act.put, List.setIfInBounds_toArray, List.set_cons_zero, List.set_cons_succ, i64_w, i32_w]
                                    rfl
                                  refine pure_ (i := 2) (N := some 5) (v := ?_) (a' := ?_) #[true, true, true, true, false, false, false] rfl rfl (by kernel_rfl) (fun _ _ _ h => h) (Or.inl ⟨by rfl, ?_⟩) ?_ ?_
                                  rotate_left
                                  · intro w'
                                    go_simp
                                    with_reducible rfl
                                  rotate_left
                                  · simp only [Act.put, List.setIfInBounds_toArray, List.set_cons_zero, List.set_cons_succ, i64_w, i32_w]
                                    rfl
                                  refine take_ (i := 4) (N := some 7) (v := ?_) (a' := ?_) #[true, true, true, true, true, false, false] rfl rfl (by kernel_rfl) (fun _ _ _ h => h) (Or.inl ⟨by rfl, ?_⟩) hHeld ?_ ?_
                                  rotate_left
                                  · rintro w' ⟨s0, s1, s2, s3, s4⟩
                                    go_simp
                                    with_reducible rfl
                                  rotate_left
                                  · simp only [Act.put, List.setIfInBounds_toArray, List.set_cons_zero, List.set_cons_succ, i64_w, i32_w]
                                    rfl
                                  refine one_ (i := 5) (N := some 8) #[true, true, true, true, true, true, false] rfl rfl (by kernel_rfl) (by decide) (fun K hK => ?_)
                                  refine goes_ Tryd.func23 (by kernel_rfl) rfl #[.int .i64 a0_0] (by rfl) rfl rfl (by (try simp only [List.map_toArray, List.map_cons, List.map_nil]); first | done | rfl | (simp only [List.length_drop, List.length_take]; rfl)) ?_
                                  with_reducible refine (show_few.calls k a0_0 t110 _ A2.out).mono ?_
                                  rintro e w' ⟨rfl, ⟨nd, rfl⟩⟩
                                  refine ⟨_, rfl, ?_⟩
                                  refine hK.out _ _ ⟨(blk_cell BK109.out 0).trans rfl, (blk_cell BK109.out 1).trans rfl, (blk_cell BK109.out 2).trans rfl, (blk_cell BK109.out 3).trans rfl, (blk_cell BK109.out 4).trans rfl⟩ (fun hHeld => ?_)
                                  clear hK K
                                  refine norm_ (a' := ?_) ?_ ?_
                                  rotate_left
                                  · show Act.put _ (some 8) _ = _
                                    simp only [Act.put, List.setIfInBounds_toArray, List.set_cons_zero, List.set_cons_succ, i64_w, i32_w]
                                    rfl
                                  refine pure_ (i := 6) (N := some 9) (v := ?_) (a' := ?_) #[true, true, true, true, true, true, true] rfl rfl (by kernel_rfl) (fun _ _ _ h => h) (Or.inl ⟨by rfl, ?_⟩) ?_ ?_
                                  rotate_left
                                  · intro w'
                                    go_simp
                                    with_reducible rfl
                                  rotate_left
                                  · simp only [Act.put, List.setIfInBounds_toArray, List.set_cons_zero, List.set_cons_succ, i64_w, i32_w]
                                    rfl
                                  refine done_ (by kernel_rfl) ?_
                                  have hcz59_0 : w58.cell? ⟨gb109, 0, none⟩ = some (.int .i64 a0_0) := (blk_cell BK109.out 0).trans rfl
                                  have hcz59_1 : w58.cell? ⟨gb109, 1, none⟩ = some (.int .i64 a0_1) := (blk_cell BK109.out 1).trans rfl
                                  have hcz59_2 : w58.cell? ⟨gb109, 2, none⟩ = some (.int .i64 a0_2) := (blk_cell BK109.out 2).trans rfl
                                  have hcz59_3 : w58.cell? ⟨gb109, 3, none⟩ = some (.string a0_3) := (blk_cell BK109.out 3).trans rfl
                                  have hcz59_4 : w58.cell? ⟨gb109, 4, none⟩ = some (.slice A0_4 l0_4.length c0_4) := (blk_cell BK109.out 4).trans rfl
                                  have hfz59_0 := blk_frozen BK109.out 0
                                  have hfz59_1 := blk_frozen BK109.out 1
                                  have hfz59_2 := blk_frozen BK109.out 2
                                  have hfz59_3 := blk_frozen BK109.out 3
                                  have hfz59_4 := blk_frozen BK109.out 4
                                  try go_wp2
                                  (try (rw [drewN_self w58]; generalize hq_ : World.drewN w58 _ = w58; have n0_ : Aside0 (w58.heap[gb109]? = some (.cells #[.int .i64 a0_0, .int .i64 a0_1, .int .i64 a0_2, .string a0_3, .slice A0_4 l0_4.length c0_4] 26 (0, 0))) := ⟨by rw [← hq_]; exact (by (with_reducible repeat (first | refine blk_drewN ?_ _ | refine blk_drew ?_ | refine blk_alloc ?_ _)); exact BK109.out)⟩; have n1_ : Aside0 (Below w.heap.size w w58) := ⟨by rw [← hq_]; exact (by repeat (first | (with_reducible first | exact HB.out | apply below_alloc | apply pw_below_drewN | apply below_drew1 | refine below_set ?_ GE109.out) | exact HB.out))⟩; clear BK109 HB hq_; have BK109 := n0_; have HB := n1_; clear n0_ n1_))
                                  have n0_ := Aside0.mk (blk_drew BK109.out)
                                  have n1_ := Aside0.mk (below_drew1 HB.out)
                                  clear BK109
                                  clear HB
                                  have BK109 := n0_
                                  have HB := n1_
                                  clear n0_ n1_
                                  have p119 : 0 ≤ (0 : Int) := (by omega)
                                  have q119 : 0 < (l0_4.length : Int) := of_decide_eq_true (by first | (with_reducible assumption) | assumption)
                                  obtain ⟨ad119, A119_4, c119_4, e119, hx119_0, hx119_1, hx119_2, hx119_3, hx119_4, hl119_4, hi119_4⟩ := at_T26 HR0_4.out 0 p119 q119
                                  have hw119_4 := hx119_4
                                  (try rw [show ((0 : Int)).toNat = 0 from rfl] at hw119_4)
                                  (try rw [show 0 * 5 = 0 from rfl] at hw119_4)
                                  (try rw [Addr.add_zero'] at hw119_4)
                                  have hw119_3 := hx119_3
                                  (try rw [show ((0 : Int)).toNat = 0 from rfl] at hw119_3)
                                  (try rw [show 0 * 5 = 0 from rfl] at hw119_3)
                                  (try rw [Addr.add_zero'] at hw119_3)
                                  have hw119_2 := hx119_2
                                  (try rw [show ((0 : Int)).toNat = 0 from rfl] at hw119_2)
                                  (try rw [show 0 * 5 = 0 from rfl] at hw119_2)
                                  (try rw [Addr.add_zero'] at hw119_2)
                                  have hw119_1 := hx119_1
                                  (try rw [show ((0 : Int)).toNat = 0 from rfl] at hw119_1)
                                  (try rw [show 0 * 5 = 0 from rfl] at hw119_1)
                                  (try rw [Addr.add_zero'] at hw119_1)
                                  have hw119_0 := hx119_0
                                  (try rw [show ((0 : Int)).toNat = 0 from rfl] at hw119_0)
                                  (try rw [show 0 * 5 = 0 from rfl] at hw119_0)
                                  (try rw [Addr.add_zero'] at hw119_0)
                                  cases e119
                                  have qi119 : (0 < l0_4.length) = True := eq_true (by omega)
                                  (try rw [show ((0 : Int)).toNat = 0 from rfl] at hx119_0)
                                  (try rw [show 0 * 5 = 0 from rfl] at hx119_0)
                                  (try rw [Addr.add_zero'] at hx119_0)
                                  (try rw [show ((0 : Int)).toNat = 0 from rfl] at hx119_1)
                                  (try rw [show 0 * 5 = 0 from rfl] at hx119_1)
                                  (try rw [Addr.add_zero'] at hx119_1)
                                  (try rw [show ((0 : Int)).toNat = 0 from rfl] at hx119_2)
                                  (try rw [show 0 * 5 = 0 from rfl] at hx119_2)
                                  (try rw [Addr.add_zero'] at hx119_2)
                                  (try rw [show ((0 : Int)).toNat = 0 from rfl] at hx119_3)
                                  (try rw [show 0 * 5 = 0 from rfl] at hx119_3)
                                  (try rw [Addr.add_zero'] at hx119_3)
                                  (try rw [show ((0 : Int)).toNat = 0 from rfl] at hx119_4)
                                  (try rw [show 0 * 5 = 0 from rfl] at hx119_4)
                                  (try rw [Addr.add_zero'] at hx119_4)
                                  replace hx119_0 := (HB.out.cell (World.block_lt_of_cell? w _ hx119_0)).trans hx119_0
                                  replace hx119_1 := (HB.out.cell (World.block_lt_of_cell? w _ hx119_1)).trans hx119_1
                                  replace hx119_2 := (HB.out.cell (World.block_lt_of_cell? w _ hx119_2)).trans hx119_2
                                  replace hx119_3 := (HB.out.cell (World.block_lt_of_cell? w _ hx119_3)).trans hx119_3
                                  replace hx119_4 := (HB.out.cell (World.block_lt_of_cell? w _ hx119_4)).trans hx119_4
                                  have HR119_4 := Aside0.mk hi119_4
                                  have HC119_4 := Aside0.mk hl119_4
                                  clear hi119_4 hl119_4
                                  replace p119 := eq_true p119
                                  replace q119 := eq_true q119
                                  have p121 : 0 ≤ (1 : Int) := (by omega)
                                  have q121 : 1 < (l0_4.length : Int) := of_decide_eq_true (by first | (with_reducible assumption) | assumption)
                                  obtain ⟨ad121, A121_4, c121_4, e121, hx121_0, hx121_1, hx121_2, hx121_3, hx121_4, hl121_4, hi121_4⟩ := at_T26 HR0_4.out 1 p121 q121
                                  have hw121_4 := hx121_4
                                  (try rw [show ((1 : Int)).toNat = 1 from rfl] at hw121_4)
                                  (try rw [show 1 * 5 = 5 from rfl] at hw121_4)
                                  (try simp only [Nat.reduceMul, Nat.reduceEqDiff, Go.Addr.add, ↓reduceIte] at hw121_4)
                                  have hw121_3 := hx121_3
                                  (try rw [show ((1 : Int)).toNat = 1 from rfl] at hw121_3)
                                  (try rw [show 1 * 5 = 5 from rfl] at hw121_3)
                                  (try simp only [Nat.reduceMul, Nat.reduceEqDiff, Go.Addr.add, ↓reduceIte] at hw121_3)
                                  have hw121_2 := hx121_2
                                  (try rw [show ((1 : Int)).toNat = 1 from rfl] at hw121_2)
                                  (try rw [show 1 * 5 = 5 from rfl] at hw121_2)
                                  (try simp only [Nat.reduceMul, Nat.reduceEqDiff, Go.Addr.add, ↓reduceIte] at hw121_2)
                                  have hw121_1 := hx121_1
                                  (try rw [show ((1 : Int)).toNat = 1 from rfl] at hw121_1)
                                  (try rw [show 1 * 5 = 5 from rfl] at hw121_1)
                                  (try simp only [Nat.reduceMul, Nat.reduceEqDiff, Go.Addr.add, ↓reduceIte] at hw121_1)
                                  have hw121_0 := hx121_0
                                  (try rw [show ((1 : Int)).toNat = 1 from rfl] at hw121_0)
                                  (try rw [show 1 * 5 = 5 from rfl] at hw121_0)
                                  (try simp only [Nat.reduceMul, Nat.reduceEqDiff, Go.Addr.add, ↓reduceIte] at hw121_0)
                                  obtain rfl : ad119 = ad121 := (by injection e121)
                                  (try simp only [show (1 : Int).toNat = 1 from rfl, Nat.reduceMul, Nat.reduceEqDiff, Go.Addr.add, ↓reduceIte] at hx121_0)
                                  (try simp only [show (1 : Int).toNat = 1 from rfl, Nat.reduceMul, Nat.reduceEqDiff, Go.Addr.add, ↓reduceIte] at hx121_1)
                                  (try simp only [show (1 : Int).toNat = 1 from rfl, Nat.reduceMul, Nat.reduceEqDiff, Go.Addr.add, ↓reduceIte] at hx121_2)
                                  (try simp only [show (1 : Int).toNat = 1 from rfl, Nat.reduceMul, Nat.reduceEqDiff, Go.Addr.add, ↓reduceIte] at hx121_3)
                                  (try simp only [show (1 : Int).toNat = 1 from rfl, Nat.reduceMul, Nat.reduceEqDiff, Go.Addr.add, ↓reduceIte] at hx121_4)
                                  have qi121 : (1 < l0_4.length) = True := eq_true (by omega)
                                  (try rw [show ((1 : Int)).toNat = 1 from rfl] at hx121_0)
                                  (try rw [show 1 * 5 = 5 from rfl] at hx121_0)
                                  (try rw [show ((1 : Int)).toNat = 1 from rfl] at hx121_1)
                                  (try rw [show 1 * 5 = 5 from rfl] at hx121_1)
                                  (try rw [show ((1 : Int)).toNat = 1 from rfl] at hx121_2)
                                  (try rw [show 1 * 5 = 5 from rfl] at hx121_2)
                                  (try rw [show ((1 : Int)).toNat = 1 from rfl] at hx121_3)
                                  (try rw [show 1 * 5 = 5 from rfl] at hx121_3)
                                  (try rw [show ((1 : Int)).toNat = 1 from rfl] at hx121_4)
                                  (try rw [show 1 * 5 = 5 from rfl] at hx121_4)
                                  replace hx121_0 := (HB.out.cell (World.block_lt_of_cell? w _ hx121_0)).trans hx121_0
                                  replace hx121_1 := (HB.out.cell (World.block_lt_of_cell? w _ hx121_1)).trans hx121_1
                                  replace hx121_2 := (HB.out.cell (World.block_lt_of_cell? w _ hx121_2)).trans hx121_2
                                  replace hx121_3 := (HB.out.cell (World.block_lt_of_cell? w _ hx121_3)).trans hx121_3
                                  replace hx121_4 := (HB.out.cell (World.block_lt_of_cell? w _ hx121_4)).trans hx121_4
                                  have HR121_4 := Aside0.mk hi121_4
                                  have HC121_4 := Aside0.mk hl121_4
                                  clear hi121_4 hl121_4
                                  replace p121 := eq_true p121
                                  replace q121 := eq_true q121
                                  have p123 : 0 ≤ (2 : Int) := (by omega)
                                  have q123 : 2 < (l0_4.length : Int) := of_decide_eq_true (by first | (with_reducible assumption) | assumption)
                                  obtain ⟨ad123, A123_4, c123_4, e123, hx123_0, hx123_1, hx123_2, hx123_3, hx123_4, hl123_4, hi123_4⟩ := at_T26 HR0_4.out 2 p123 q123
                                  have hw123_4 := hx123_4
                                  (try rw [show ((2 : Int)).toNat = 2 from rfl] at hw123_4)
                                  (try rw [show 2 * 5 = 10 from rfl] at hw123_4)
                                  (try simp only [Nat.reduceMul, Nat.reduceEqDiff, Go.Addr.add, ↓reduceIte] at hw123_4)
                                  have hw123_3 := hx123_3
                                  (try rw [show ((2 : Int)).toNat = 2 from rfl] at hw123_3)
                                  (try rw [show 2 * 5 = 10 from rfl] at hw123_3)
                                  (try simp only [Nat.reduceMul, Nat.reduceEqDiff, Go.Addr.add, ↓reduceIte] at hw123_3)
                                  have hw123_2 := hx123_2
                                  (try rw [show ((2 : Int)).toNat = 2 from rfl] at hw123_2)
                                  (try rw [show 2 * 5 = 10 from rfl] at hw123_2)
                                  (try simp only [Nat.reduceMul, Nat.reduceEqDiff, Go.Addr.add, ↓reduceIte] at hw123_2)
                                  have hw123_1 := hx123_1
                                  (try rw [show ((2 : Int)).toNat = 2 from rfl] at hw123_1)
                                  (try rw [show 2 * 5 = 10 from rfl] at hw123_1)
                                  (try simp only [Nat.reduceMul, Nat.reduceEqDiff, Go.Addr.add, ↓reduceIte] at hw123_1)
                                  have hw123_0 := hx123_0
                                  (try rw [show ((2 : Int)).toNat = 2 from rfl] at hw123_0)
                                  (try rw [show 2 * 5 = 10 from rfl] at hw123_0)
                                  (try simp only [Nat.reduceMul, Nat.reduceEqDiff, Go.Addr.add, ↓reduceIte] at hw123_0)
                                  obtain rfl : ad119 = ad123 := (by injection e123)
                                  (try simp only [show (2 : Int).toNat = 2 from rfl, Nat.reduceMul, Nat.reduceEqDiff, Go.Addr.add, ↓reduceIte] at hx123_0)
                                  (try simp only [show (2 : Int).toNat = 2 from rfl, Nat.reduceMul, Nat.reduceEqDiff, Go.Addr.add, ↓reduceIte] at hx123_1)
                                  (try simp only [show (2 : Int).toNat = 2 from rfl, Nat.reduceMul, Nat.reduceEqDiff, Go.Addr.add, ↓reduceIte] at hx123_2)
                                  (try simp only [show (2 : Int).toNat = 2 from rfl, Nat.reduceMul, Nat.reduceEqDiff, Go.Addr.add, ↓reduceIte] at hx123_3)
                                  (try simp only [show (2 : Int).toNat = 2 from rfl, Nat.reduceMul, Nat.reduceEqDiff, Go.Addr.add, ↓reduceIte] at hx123_4)
                                  have qi123 : (2 < l0_4.length) = True := eq_true (by omega)
                                  (try rw [show ((2 : Int)).toNat = 2 from rfl] at hx123_0)
                                  (try rw [show 2 * 5 = 10 from rfl] at hx123_0)
                                  (try rw [show ((2 : Int)).toNat = 2 from rfl] at hx123_1)
                                  (try rw [show 2 * 5 = 10 from rfl] at hx123_1)
                                  (try rw [show ((2 : Int)).toNat = 2 from rfl] at hx123_2)
                                  (try rw [show 2 * 5 = 10 from rfl] at hx123_2)
                                  (try rw [show ((2 : Int)).toNat = 2 from rfl] at hx123_3)
                                  (try rw [show 2 * 5 = 10 from rfl] at hx123_3)
                                  (try rw [show ((2 : Int)).toNat = 2 from rfl] at hx123_4)
                                  (try rw [show 2 * 5 = 10 from rfl] at hx123_4)
                                  replace hx123_0 := (HB.out.cell (World.block_lt_of_cell? w _ hx123_0)).trans hx123_0
                                  replace hx123_1 := (HB.out.cell (World.block_lt_of_cell? w _ hx123_1)).trans hx123_1
                                  replace hx123_2 := (HB.out.cell (World.block_lt_of_cell? w _ hx123_2)).trans hx123_2
                                  replace hx123_3 := (HB.out.cell (World.block_lt_of_cell? w _ hx123_3)).trans hx123_3
                                  replace hx123_4 := (HB.out.cell (World.block_lt_of_cell? w _ hx123_4)).trans hx123_4
                                  have HR123_4 := Aside0.mk hi123_4
                                  have HC123_4 := Aside0.mk hl123_4
                                  clear hi123_4 hl123_4
                                  replace p123 := eq_true p123
                                  replace q123 := eq_true q123
                                  refine start_ (n := 21) (S := fun w' => w'.cell? ⟨gb109, 0, none⟩ = some (.int .i64 a0_0) ∧ w'.cell? ⟨gb109, 1, none⟩ = some (.int .i64 a0_1) ∧ w'.cell? ⟨gb109, 2, none⟩ = some (.int .i64 a0_2) ∧ w'.cell? ⟨gb109, 3, none⟩ = some (.string a0_3) ∧ w'.cell? ⟨gb109, 4, none⟩ = some (.slice (some ad119) l0_4.length c0_4) ∧ w'.cell? ad119 = some (.int .i64 ((rd_T26 l0_4 0).f0)) ∧ w'.cell? ⟨ad119.block, ad119.off + 1, none⟩ = some (.int .i64 ((rd_T26 l0_4 0).f1)) ∧ w'.cell? ⟨ad119.block, ad119.off + 2, none⟩ = some (.int .i64 ((rd_T26 l0_4 0).f2)) ∧ w'.cell? ⟨ad119.block, ad119.off + 3, none⟩ = some (.string ((rd_T26 l0_4 0).f3)) ∧ w'.cell? ⟨ad119.block, ad119.off + 4, none⟩ = some (.slice A119_4 ((rd_T26 l0_4 0).f4).length c119_4) ∧ w'.cell? ⟨ad119.block, ad119.off + 5, none⟩ = some (.int .i64 ((rd_T26 l0_4 1).f0)) ∧ w'.cell? ⟨ad119.block, ad119.off + 5 + 1, none⟩ = some (.int .i64 ((rd_T26 l0_4 1).f1)) ∧ w'.cell? ⟨ad119.block, ad119.off + 5 + 2, none⟩ = some (.int .i64 ((rd_T26 l0_4 1).f2)) ∧ w'.cell? ⟨ad119.block, ad119.off + 5 + 3, none⟩ = some (.string ((rd_T26 l0_4 1).f3)) ∧ w'.cell? ⟨ad119.block, ad119.off + 5 + 4, none⟩ = some (.slice A121_4 ((rd_T26 l0_4 1).f4).length c121_4) ∧ w'.cell? ⟨ad119.block, ad119.off + 10, none⟩ = some (.int .i64 ((rd_T26 l0_4 2).f0)) ∧ w'.cell? ⟨ad119.block, ad119.off + 10 + 1, none⟩ = some (.int .i64 ((rd_T26 l0_4 2).f1)) ∧ w'.cell? ⟨ad119.block, ad119.off + 10 + 2, none⟩ = some (.int .i64 ((rd_T26 l0_4 2).f2)) ∧ w'.cell? ⟨ad119.block, ad119.off + 10 + 3, none⟩ = some (.string ((rd_T26 l0_4 2).f3)) ∧ w'.cell? ⟨ad119.block, ad119.off + 10 + 4, none⟩ = some (.slice A123_4 ((rd_T26 l0_4 2).f4).length c123_4)) (ds := []) #[false, false, false, false, false, false, false, false, false, false, false, false, false, false, false, false, false, false, false, false, false] (by kernel_rfl) rfl rfl ⟨(blk_cell BK109.out 0).trans rfl, (blk_cell BK109.out 1).trans rfl, (blk_cell BK109.out 2).trans rfl, (blk_cell BK109.out 3).trans rfl, (blk_cell BK109.out 4).trans rfl, ((HB.out.cell (World.block_lt_of_cell? w _ hw119_0)).trans hw119_0), ((HB.out.cell (World.block_lt_of_cell? w _ hw119_1)).trans hw119_1), ((HB.out.cell (World.block_lt_of_cell? w _ hw119_2)).trans hw119_2), ((HB.out.cell (World.block_lt_of_cell? w _ hw119_3)).trans hw119_3), ((HB.out.cell (World.block_lt_of_cell? w _ hw119_4)).trans hw119_4), ((HB.out.cell (World.block_lt_of_cell? w _ hw121_0)).trans hw121_0), ((HB.out.cell (World.block_lt_of_cell? w _ hw121_1)).trans hw121_1), ((HB.out.cell (World.block_lt_of_cell? w _ hw121_2)).trans hw121_2), ((HB.out.cell (World.block_lt_of_cell? w _ hw121_3)).trans hw121_3), ((HB.out.cell (World.block_lt_of_cell? w _ hw121_4)).trans hw121_4), ((HB.out.cell (World.block_lt_of_cell? w _ hw123_0)).trans hw123_0), ((HB.out.cell (World.block_lt_of_cell? w _ hw123_1)).trans hw123_1), ((HB.out.cell (World.block_lt_of_cell? w _ hw123_2)).trans hw123_2), ((HB.out.cell (World.block_lt_of_cell? w _ hw123_3)).trans hw123_3), ((HB.out.cell (World.block_lt_of_cell? w _ hw123_4)).trans hw123_4)⟩ (fun hHeld => ?_); refine with_tabW show_Expr.tab17 show_Expr.bits17 (fun HT_ HW_ => ?_)
                                  generalize w58.drew = w60 at BK109 HB HR119_4 HR121_4 HR123_4 hx119_0 hx119_1 hx119_2 hx119_3 hx119_4 hx121_0 hx121_1 hx121_2 hx121_3 hx121_4 hx123_0 hx123_1 hx123_2 hx123_3 hx123_4 hHeld ⊢
                                  refine pure_ (i := 0) (N := some 53) (v := ?_) (a' := ?_) #[true, false, false, false, false, false, false, false, false, false, false, false, false, false, false, false, false, false, false, false, false] rfl rfl (any_of HT_.out (by kernel_rfl)) (fun _ _ _ h => h) (Or.inl ⟨by rfl, ?_⟩) ?_ ?_
                                  rotate_left
                                  · intro w'
                                    go_simp
                                    with_reducible rfl
                                  rotate_left
                                  · simp only [Act.put, List.setIfInBounds_toArray, List.set_cons_zero, List.set_cons_succ, i64_w, i32_w]
                                    rfl
                                  refine pure_ (i := 7) (N := some 60) (v := ?_) (a' := ?_) #[true, false, false, false, false, false, false, true, false, false, false, false, false, false, false, false, false, false, false, false, false] rfl rfl (any_of HT_.out (by kernel_rfl)) (fun _ _ _ h => h) (Or.inl ⟨by rfl, ?_⟩) ?_ ?_
                                  rotate_left
                                  · intro w'
                                    go_simp
                                    with_reducible rfl
                                  rotate_left
                                  · simp only [Act.put, List.setIfInBounds_toArray, List.set_cons_zero, List.set_cons_succ, i64_w, i32_w]
                                    rfl
                                  refine pure_ (i := 14) (N := some 67) (v := ?_) (a' := ?_) #[true, false, false, false, false, false, false, true, false, false, false, false, false, false, true, false, false, false, false, false, false] rfl rfl (any_of HT_.out (by kernel_rfl)) (fun _ _ _ h => h) (Or.inl ⟨by rfl, ?_⟩) ?_ ?_
                                  rotate_left
                                  · intro w'
                                    go_simp
                                    with_reducible rfl
                                  rotate_left
                                  · simp only [Act.put, List.setIfInBounds_toArray, List.set_cons_zero, List.set_cons_succ, i64_w, i32_w]
                                    rfl
                                  refine take_ (i := 1) (N := some 54) (v := ?_) (a' := ?_) #[true, true, false, false, false, false, false, true, false, false, false, false, false, false, true, false, false, false, false, false, false] rfl rfl (take_ofW HT_.out HW_.out (by kernel_rfl)) (fun _ _ _ h => h) (Or.inl ⟨by rfl, ?_⟩) hHeld ?_ ?_
                                  rotate_left
                                  · rintro w' ⟨s0, s1, s2, s3, s4, s5, s6, s7, s8, s9, s10, s11, s12, s13, s14, s15, s16, s17, s18, s19⟩
                                    go_simp
                                    with_reducible rfl
                                  rotate_left
                                  · simp only [Act.put, List.setIfInBounds_toArray, List.set_cons_zero, List.set_cons_succ, i64_w, i32_w]
                                    rfl
                                  refine pure_ (i := 2) (N := some 55) (v := ?_) (a' := ?_) #[true, true, true, false, false, false, false, true, false, false, false, false, false, false, true, false, false, false, false, false, false] rfl rfl (any_of HT_.out (by kernel_rfl)) (fun _ _ _ h => h) (Or.inl ⟨by rfl, ?_⟩) ?_ ?_
                                  rotate_left
                                  · intro w'
                                    go_simp
                                    with_reducible rfl
                                  rotate_left
                                  · simp only [Act.put, List.setIfInBounds_toArray, List.set_cons_zero, List.set_cons_succ, i64_w, i32_w]
                                    rfl
                                  refine take_ (i := 3) (N := some 56) (v := ?_) (a' := ?_) #[true, true, true, true, false, false, false, true, false, false, false, false, false, false, true, false, false, false, false, false, false] rfl rfl (take_ofW HT_.out HW_.out (by kernel_rfl)) (fun _ _ _ h => h) (Or.inl ⟨by rfl, ?_⟩) hHeld ?_ ?_
                                  rotate_left
                                  · rintro w' ⟨s0, s1, s2, s3, s4, s5, s6, s7, s8, s9, s10, s11, s12, s13, s14, s15, s16, s17, s18, s19⟩
                                    go_simp
                                    with_reducible rfl
                                  rotate_left
                                  · simp only [Act.put, List.setIfInBounds_toArray, List.set_cons_zero, List.set_cons_succ, i64_w, i32_w]
                                    rfl
                                  refine take_ (i := 8) (N := some 61) (v := ?_) (a' := ?_) #[true, true, true, true, false, false, false, true, true, false, false, false, false, false, true, false, false, false, false, false, false] rfl rfl (take_ofW HT_.out HW_.out (by kernel_rfl)) (fun _ _ _ h => h) (Or.inl ⟨by rfl, ?_⟩) hHeld ?_ ?_
                                  rotate_left
                                  · rintro w' ⟨s0, s1, s2, s3, s4, s5, s6, s7, s8, s9, s10, s11, s12, s13, s14, s15, s16, s17, s18, s19⟩
                                    go_simp
                                    with_reducible rfl
                                  rotate_left
                                  · simp only [Act.put, List.setIfInBounds_toArray, List.set_cons_zero, List.set_cons_succ, i64_w, i32_w]
                                    rfl
                                  refine pure_ (i := 9) (N := some 62) (v := ?_) (a' := ?_) #[true, true, true, true, false, false, false, true, true, true, false, false, false, false, true, false, false, false, false, false, false] rfl rfl (any_of HT_.out (by kernel_rfl)) (fun _ _ _ h => h) (Or.inl ⟨by rfl, ?_⟩) ?_ ?_
                                  rotate_left
                                  · intro w'
                                    go_simp
                                    with_reducible rfl
                                  rotate_left
                                  · simp only [Act.put, List.setIfInBounds_toArray, List.set_cons_zero, List.set_cons_succ, i64_w, i32_w]
                                    rfl
                                  refine take_ (i := 10) (N := some 63) (v := ?_) (a' := ?_) #[true, true, true, true, false, false, false, true, true, true, true, false, false, false, true, false, false, false, false, false, false] rfl rfl (take_ofW HT_.out HW_.out (by kernel_rfl)) (fun _ _ _ h => h) (Or.inl ⟨by rfl, ?_⟩) hHeld ?_ ?_
                                  rotate_left
                                  · rintro w' ⟨s0, s1, s2, s3, s4, s5, s6, s7, s8, s9, s10, s11, s12, s13, s14, s15, s16, s17, s18, s19⟩
                                    go_simp
                                    with_reducible rfl
                                  rotate_left
                                  · simp only [Act.put, List.setIfInBounds_toArray, List.set_cons_zero, List.set_cons_succ, i64_w, i32_w]
                                    rfl
                                  refine take_ (i := 15) (N := some 68) (v := ?_) (a' := ?_) #[true, true, true, true, false, false, false, true, true, true, true, false, false, false, true, true, false, false, false, false, false] rfl rfl (take_ofW HT_.out HW_.out (by kernel_rfl)) (fun _ _ _ h => h) (Or.inl ⟨by rfl, ?_⟩) hHeld ?_ ?_
                                  rotate_left
                                  · rintro w' ⟨s0, s1, s2, s3, s4, s5, s6, s7, s8, s9, s10, s11, s12, s13, s14, s15, s16, s17, s18, s19⟩
                                    go_simp
                                    with_reducible rfl
                                  rotate_left
                                  · simp only [Act.put, List.setIfInBounds_toArray, List.set_cons_zero, List.set_cons_succ, i64_w, i32_w]
                                    rfl
                                  refine pure_ (i := 16) (N := some 69) (v := ?_) (a' := ?_) #[true, true, true, true, false, false, false, true, true, true, true, false, false, false, true, true, true, false, false, false, false] rfl rfl (any_of HT_.out (by kernel_rfl)) (fun _ _ _ h => h) (Or.inl ⟨by rfl, ?_⟩) ?_ ?_
                                  rotate_left
                                  · intro w'
                                    go_simp
                                    with_reducible rfl
                                  rotate_left
                                  · simp only [Act.put, List.setIfInBounds_toArray, List.set_cons_zero, List.set_cons_succ, i64_w, i32_w]
                                    rfl
                                  refine take_ (i := 17) (N := some 70) (v := ?_) (a' := ?_) #[true, true, true, true, false, false, false, true, true, true, true, false, false, false, true, true, true, true, false, false, false] rfl rfl (take_ofW HT_.out HW_.out (by kernel_rfl)) (fun _ _ _ h => h) (Or.inl ⟨by rfl, ?_⟩) hHeld ?_ ?_
                                  rotate_left
                                  · rintro w' ⟨s0, s1, s2, s3, s4, s5, s6, s7, s8, s9, s10, s11, s12, s13, s14, s15, s16, s17, s18, s19⟩
                                    go_simp
                                    with_reducible rfl
                                  rotate_left
                                  · simp only [Act.put, List.setIfInBounds_toArray, List.set_cons_zero, List.set_cons_succ, i64_w, i32_w]
                                    rfl
                                  refine one_ (i := 4) (N := some 57) #[true, true, true, true, true, false, false, true, true, true, true, false, false, false, true, true, true, true, false, false, false] rfl rfl (one_of HT_.out (by kernel_rfl)) (by decide) (fun K hK => ?_)
                                  refine goes_ Tryd.func26 (by kernel_rfl) rfl #[.agg #[.int .i64 ((rd_T26 l0_4 0).f0), .int .i64 ((rd_T26 l0_4 0).f1), .int .i64 ((rd_T26 l0_4 0).f2), .string ((rd_T26 l0_4 0).f3), .slice A119_4 ((rd_T26 l0_4 0).f4).length c119_4]] (by rfl) rfl rfl (by (try simp only [List.map_toArray, List.map_cons, List.map_nil]); first | done | rfl | (simp only [List.length_drop, List.length_take]; rfl)) ?_
                                  with_reducible refine (show_in.calls (show_Expr.f k) (ih k (by omega)) k ((rd_T26 l0_4 0).f0) ((rd_T26 l0_4 0).f1) ((rd_T26 l0_4 0).f2) ((rd_T26 l0_4 0).f3) _ _ ((rd_T26 l0_4 0).f4) t120 _ ?side1 ?side2 ?side3 A47.out).mono ?_
                                  (case side1 => repeat (first | exact (Kd.C_below HR119_4.out HB.out) | (with_reducible refine Kd.C_alloc ?_ _) | (with_reducible refine Kd.C_drewN ?_ _) | (with_reducible refine Kd.C_drew ?_)))
                                  (case side2 => exact HC119_4.out)
                                  (case side3 => exact GlobW.below HG.out (by repeat (first | (with_reducible first | exact HB.out | apply below_alloc | apply pw_below_drewN | apply below_drew1 | refine below_set ?_ GE109.out) | exact HB.out)))
                                  rintro e w61 ⟨rfl, hb⟩
                                  refine ⟨_, rfl, ?_⟩
                                  have n0_ := Aside0.mk (blk_below (g := gb109) (o := .cells #[.int .i64 a0_0, .int .i64 a0_1, .int .i64 a0_2, .string a0_3, .slice (some ad119) l0_4.length c0_4] 26 (0, 0)) (by (with_reducible repeat (first | refine blk_drewN ?_ _ | refine blk_drew ?_ | refine blk_alloc ?_ _)); exact BK109.out) hb)
                                  have n1_ := Aside0.mk (below_step (by repeat (first | (with_reducible first | exact HB.out | apply below_alloc | apply pw_below_drewN | apply below_drew1 | refine below_set ?_ GE109.out) | exact HB.out)) hb)
                                  clear BK109
                                  clear HB
                                  have BK109 := n0_
                                  have HB := n1_
                                  clear n0_ n1_
                                  (try clear hb)
                                  (try clear hb2)
                                  (try clear hk)
                                  (try clear hi)
                                  refine hK.out _ _ ⟨(blk_cell BK109.out 0).trans rfl, (blk_cell BK109.out 1).trans rfl, (blk_cell BK109.out 2).trans rfl, (blk_cell BK109.out 3).trans rfl, (blk_cell BK109.out 4).trans rfl, ((HB.out.cell (World.block_lt_of_cell? w _ hw119_0)).trans hw119_0), ((HB.out.cell (World.block_lt_of_cell? w _ hw119_1)).trans hw119_1), ((HB.out.cell (World.block_lt_of_cell? w _ hw119_2)).trans hw119_2), ((HB.out.cell (World.block_lt_of_cell? w _ hw119_3)).trans hw119_3), ((HB.out.cell (World.block_lt_of_cell? w _ hw119_4)).trans hw119_4), ((HB.out.cell (World.block_lt_of_cell? w _ hw121_0)).trans hw121_0), ((HB.out.cell (World.block_lt_of_cell? w _ hw121_1)).trans hw121_1), ((HB.out.cell (World.block_lt_of_cell? w _ hw121_2)).trans hw121_2), ((HB.out.cell (World.block_lt_of_cell? w _ hw121_3)).trans hw121_3), ((HB.out.cell (World.block_lt_of_cell? w _ hw121_4)).trans hw121_4), ((HB.out.cell (World.block_lt_of_cell? w _ hw123_0)).trans hw123_0), ((HB.out.cell (World.block_lt_of_cell? w _ hw123_1)).trans hw123_1), ((HB.out.cell (World.block_lt_of_cell? w _ hw123_2)).trans hw123_2), ((HB.out.cell (World.block_lt_of_cell? w _ hw123_3)).trans hw123_3), ((HB.out.cell (World.block_lt_of_cell? w _ hw123_4)).trans hw123_4)⟩ (fun hHeld => ?_)
                                  clear hK K
                                  refine norm_ (a' := ?_) ?_ ?_
                                  rotate_left
                                  · show Act.put _ (some 57) _ = _
                                    simp only [Act.put, List.setIfInBounds_toArray, List.set_cons_zero, List.set_cons_succ, i64_w, i32_w]
                                    rfl
                                  refine pure_ (i := 5) (N := some 58) (v := ?_) (a' := ?_) #[true, true, true, true, true, true, false, true, true, true, true, false, false, false, true, true, true, true, false, false, false] rfl rfl (any_of HT_.out (by kernel_rfl)) (fun _ _ _ h => h) (Or.inl ⟨by rfl, ?_⟩) ?_ ?_
                                  rotate_left
                                  · intro w'
                                    go_simp
                                    with_reducible rfl
                                  rotate_left
                                  · simp only [Act.put, List.setIfInBounds_toArray, List.set_cons_zero, List.set_cons_succ, i64_w, i32_w]
                                    rfl
                                  refine pure_ (i := 6) (N := some 59) (v := ?_) (a' := ?_) #[true, true, true, true, true, true, true, true, true, true, true, false, false, false, true, true, true, true, false, false, false] rfl rfl (any_of HT_.out (by kernel_rfl)) (fun _ _ _ h => h) (Or.inl ⟨by rfl, ?_⟩) ?_ ?_
                                  rotate_left
                                  · intro w'
                                    go_simp
                                    with_reducible rfl
                                  rotate_left
                                  · simp only [Act.put, List.setIfInBounds_toArray, List.set_cons_zero, List.set_cons_succ, i64_w, i32_w]
                                    rfl
                                  refine one_ (i := 11) (N := some 64) #[true, true, true, true, true, true, true, true, true, true, true, true, false, false, true, true, true, true, false, false, false] rfl rfl (one_of HT_.out (by kernel_rfl)) (by decide) (fun K hK => ?_)
                                  refine goes_ Tryd.func26 (by kernel_rfl) rfl #[.agg #[.int .i64 ((rd_T26 l0_4 1).f0), .int .i64 ((rd_T26 l0_4 1).f1), .int .i64 ((rd_T26 l0_4 1).f2), .string ((rd_T26 l0_4 1).f3), .slice A121_4 ((rd_T26 l0_4 1).f4).length c121_4]] (by rfl) rfl rfl (by (try simp only [List.map_toArray, List.map_cons, List.map_nil]); first | done | rfl | (simp only [List.length_drop, List.length_take]; rfl)) ?_
                                  with_reducible refine (show_in.calls (show_Expr.f k) (ih k (by omega)) k ((rd_T26 l0_4 1).f0) ((rd_T26 l0_4 1).f1) ((rd_T26 l0_4 1).f2) ((rd_T26 l0_4 1).f3) _ _ ((rd_T26 l0_4 1).f4) t122 _ ?side1 ?side2 ?side3 A51.out).mono ?_
                                  (case side1 => repeat (first | exact (Kd.C_below HR121_4.out HB.out) | (with_reducible refine Kd.C_alloc ?_ _) | (with_reducible refine Kd.C_drewN ?_ _) | (with_reducible refine Kd.C_drew ?_)))
                                  (case side2 => exact HC121_4.out)
                                  (case side3 => exact GlobW.below HG.out (by repeat (first | (with_reducible first | exact HB.out | apply below_alloc | apply pw_below_drewN | apply below_drew1 | refine below_set ?_ GE109.out) | exact HB.out)))
                                  rintro e w62 ⟨rfl, hb⟩
                                  refine ⟨_, rfl, ?_⟩
                                  have n0_ := Aside0.mk (blk_below (g := gb109) (o := .cells #[.int .i64 a0_0, .int .i64 a0_1, .int .i64 a0_2, .string a0_3, .slice (some ad119) l0_4.length c0_4] 26 (0, 0)) (by (with_reducible repeat (first | refine blk_drewN ?_ _ | refine blk_drew ?_ | refine blk_alloc ?_ _)); exact BK109.out) hb)
                                  have n1_ := Aside0.mk (below_step (by repeat (first | (with_reducible first | exact HB.out | apply below_alloc | apply pw_below_drewN | apply below_drew1 | refine below_set ?_ GE109.out) | exact HB.out)) hb)
                                  clear BK109
                                  clear HB
                                  have BK109 := n0_
                                  have HB := n1_
                                  clear n0_ n1_
                                  (try clear hb)
                                  (try clear hb2)
                                  (try clear hk)
                                  (try clear hi)
                                  refine hK.out _ _ ⟨(blk_cell BK109.out 0).trans rfl, (blk_cell BK109.out 1).trans rfl, (blk_cell BK109.out 2).trans rfl, (blk_cell BK109.out 3).trans rfl, (blk_cell BK109.out 4).trans rfl, ((HB.out.cell (World.block_lt_of_cell? w _ hw119_0)).trans hw119_0), ((HB.out.cell (World.block_lt_of_cell? w _ hw119_1)).trans hw119_1), ((HB.out.cell (World.block_lt_of_cell? w _ hw119_2)).trans hw119_2), ((HB.out.cell (World.block_lt_of_cell? w _ hw119_3)).trans hw119_3), ((HB.out.cell (World.block_lt_of_cell? w _ hw119_4)).trans hw119_4), ((HB.out.cell (World.block_lt_of_cell? w _ hw121_0)).trans hw121_0), ((HB.out.cell (World.block_lt_of_cell? w _ hw121_1)).trans hw121_1), ((HB.out.cell (World.block_lt_of_cell? w _ hw121_2)).trans hw121_2), ((HB.out.cell (World.block_lt_of_cell? w _ hw121_3)).trans hw121_3), ((HB.out.cell (World.block_lt_of_cell? w _ hw121_4)).trans hw121_4), ((HB.out.cell (World.block_lt_of_cell? w _ hw123_0)).trans hw123_0), ((HB.out.cell (World.block_lt_of_cell? w _ hw123_1)).trans hw123_1), ((HB.out.cell (World.block_lt_of_cell? w _ hw123_2)).trans hw123_2), ((HB.out.cell (World.block_lt_of_cell? w _ hw123_3)).trans hw123_3), ((HB.out.cell (World.block_lt_of_cell? w _ hw123_4)).trans hw123_4)⟩ (fun hHeld => ?_)
                                  clear hK K
                                  refine norm_ (a' := ?_) ?_ ?_
                                  rotate_left
                                  · show Act.put _ (some 64) _ = _
                                    simp only [Act.put, List.setIfInBounds_toArray, List.set_cons_zero, List.set_cons_succ, i64_w, i32_w]
                                    rfl
                                  refine pure_ (i := 12) (N := some 65) (v := ?_) (a' := ?_) #[true, true, true, true, true, true, true, true, true, true, true, true, true, false, true, true, true, true, false, false, false] rfl rfl (any_of HT_.out (by kernel_rfl)) (fun _ _ _ h => h) (Or.inl ⟨by rfl, ?_⟩) ?_ ?_
                                  rotate_left
                                  · intro w'
                                    go_simp
                                    with_reducible rfl
                                  rotate_left
                                  · simp only [Act.put, List.setIfInBounds_toArray, List.set_cons_zero, List.set_cons_succ, i64_w, i32_w]
                                    rfl
                                  refine pure_ (i := 13) (N := some 66) (v := ?_) (a' := ?_) #[true, true, true, true, true, true, true, true, true, true, true, true, true, true, true, true, true, true, false, false, false] rfl rfl (any_of HT_.out (by kernel_rfl)) (fun _ _ _ h => h) (Or.inl ⟨by rfl, ?_⟩) ?_ ?_
                                  rotate_left
                                  · intro w'
                                    go_simp
                                    with_reducible rfl
                                  rotate_left
                                  · simp only [Act.put, List.setIfInBounds_toArray, List.set_cons_zero, List.set_cons_succ, i64_w, i32_w]
                                    rfl
                                  refine one_ (i := 18) (N := some 71) #[true, true, true, true, true, true, true, true, true, true, true, true, true, true, true, true, true, true, true, false, false] rfl rfl (one_of HT_.out (by kernel_rfl)) (by decide) (fun K hK => ?_)
                                  refine goes_ Tryd.func26 (by kernel_rfl) rfl #[.agg #[.int .i64 ((rd_T26 l0_4 2).f0), .int .i64 ((rd_T26 l0_4 2).f1), .int .i64 ((rd_T26 l0_4 2).f2), .string ((rd_T26 l0_4 2).f3), .slice A123_4 ((rd_T26 l0_4 2).f4).length c123_4]] (by rfl) rfl rfl (by (try simp only [List.map_toArray, List.map_cons, List.map_nil]); first | done | rfl | (simp only [List.length_drop, List.length_take]; rfl)) ?_
                                  with_reducible refine (show_in.calls (show_Expr.f k) (ih k (by omega)) k ((rd_T26 l0_4 2).f0) ((rd_T26 l0_4 2).f1) ((rd_T26 l0_4 2).f2) ((rd_T26 l0_4 2).f3) _ _ ((rd_T26 l0_4 2).f4) t124 _ ?side1 ?side2 ?side3 A55.out).mono ?_
                                  (case side1 => repeat (first | exact (Kd.C_below HR123_4.out HB.out) | (with_reducible refine Kd.C_alloc ?_ _) | (with_reducible refine Kd.C_drewN ?_ _) | (with_reducible refine Kd.C_drew ?_)))
                                  (case side2 => exact HC123_4.out)
                                  (case side3 => exact GlobW.below HG.out (by repeat (first | (with_reducible first | exact HB.out | apply below_alloc | apply pw_below_drewN | apply below_drew1 | refine below_set ?_ GE109.out) | exact HB.out)))
                                  rintro e w63 ⟨rfl, hb⟩
                                  refine ⟨_, rfl, ?_⟩
                                  have n0_ := Aside0.mk (blk_below (g := gb109) (o := .cells #[.int .i64 a0_0, .int .i64 a0_1, .int .i64 a0_2, .string a0_3, .slice (some ad119) l0_4.length c0_4] 26 (0, 0)) (by (with_reducible repeat (first | refine blk_drewN ?_ _ | refine blk_drew ?_ | refine blk_alloc ?_ _)); exact BK109.out) hb)
                                  have n1_ := Aside0.mk (below_step (by repeat (first | (with_reducible first | exact HB.out | apply below_alloc | apply pw_below_drewN | apply below_drew1 | refine below_set ?_ GE109.out) | exact HB.out)) hb)
                                  clear BK109
                                  clear HB
                                  have BK109 := n0_
                                  have HB := n1_
                                  clear n0_ n1_
                                  (try clear hb)
                                  (try clear hb2)
                                  (try clear hk)
                                  (try clear hi)
                                  refine hK.out _ _ ⟨(blk_cell BK109.out 0).trans rfl, (blk_cell BK109.out 1).trans rfl, (blk_cell BK109.out 2).trans rfl, (blk_cell BK109.out 3).trans rfl, (blk_cell BK109.out 4).trans rfl, ((HB.out.cell (World.block_lt_of_cell? w _ hw119_0)).trans hw119_0), ((HB.out.cell (World.block_lt_of_cell? w _ hw119_1)).trans hw119_1), ((HB.out.cell (World.block_lt_of_cell? w _ hw119_2)).trans hw119_2), ((HB.out.cell (World.block_lt_of_cell? w _ hw119_3)).trans hw119_3), ((HB.out.cell (World.block_lt_of_cell? w _ hw119_4)).trans hw119_4), ((HB.out.cell (World.block_lt_of_cell? w _ hw121_0)).trans hw121_0), ((HB.out.cell (World.block_lt_of_cell? w _ hw121_1)).trans hw121_1), ((HB.out.cell (World.block_lt_of_cell? w _ hw121_2)).trans hw121_2), ((HB.out.cell (World.block_lt_of_cell? w _ hw121_3)).trans hw121_3), ((HB.out.cell (World.block_lt_of_cell? w _ hw121_4)).trans hw121_4), ((HB.out.cell (World.block_lt_of_cell? w _ hw123_0)).trans hw123_0), ((HB.out.cell (World.block_lt_of_cell? w _ hw123_1)).trans hw123_1), ((HB.out.cell (World.block_lt_of_cell? w _ hw123_2)).trans hw123_2), ((HB.out.cell (World.block_lt_of_cell? w _ hw123_3)).trans hw123_3), ((HB.out.cell (World.block_lt_of_cell? w _ hw123_4)).trans hw123_4)⟩ (fun hHeld => ?_)
                                  clear hK K
                                  refine norm_ (a' := ?_) ?_ ?_
                                  rotate_left
                                  · show Act.put _ (some 71) _ = _
                                    simp only [Act.put, List.setIfInBounds_toArray, List.set_cons_zero, List.set_cons_succ, i64_w, i32_w]
                                    rfl
                                  refine pure_ (i := 19) (N := some 72) (v := ?_) (a' := ?_) #[true, true, true, true, true, true, true, true, true, true, true, true, true, true, true, true, true, true, true, true, false] rfl rfl (any_of HT_.out (by kernel_rfl)) (fun _ _ _ h => h) (Or.inl ⟨by rfl, ?_⟩) ?_ ?_
                                  rotate_left
                                  · intro w'
                                    go_simp
                                    with_reducible rfl
                                  rotate_left
                                  · simp only [Act.put, List.setIfInBounds_toArray, List.set_cons_zero, List.set_cons_succ, i64_w, i32_w]
                                    rfl
                                  refine pure_ (i := 20) (N := some 2) (v := ?_) (a' := ?_) #[true, true, true, true, true, true, true, true, true, true, true, true, true, true, true, true, true, true, true, true, true] rfl rfl (any_of HT_.out (by kernel_rfl)) (fun _ _ _ h => h) (Or.inl ⟨by rfl, ?_⟩) ?_ ?_
                                  rotate_left
                                  · intro w'
                                    go_simp
                                    with_reducible rfl
                                  rotate_left
                                  · simp only [Act.put, List.setIfInBounds_toArray, List.set_cons_zero, List.set_cons_succ, i64_w, i32_w]
                                    rfl
                                  refine done_ (done_of HT_.out (by kernel_rfl)) ?_
                                  try go_wp2
                                  go_ret
                                  exact ⟨by first | rfl | (simp [errW_none, errW_some] <;> rfl) | (simp [*, errW_none, errW_some] <;> rfl), by repeat (first | (with_reducible first | exact HB.out | apply below_alloc | apply pw_below_drewN | apply below_drew1 | refine below_set ?_ GE109.out) | exact HB.out)⟩
                                · rw [if_neg c56] at H
                                  exact absurd H (by simp)
                              · rw [if_neg c54] at H
                                exact absurd H (by simp)
                            · rw [if_neg c53] at H
                              exact absurd H (by simp)
                          · rw [if_neg c52] at H
                            exact absurd H (by simp)
                        · rw [if_neg c50] at H
                          exact absurd H (by simp)
                      · rw [if_neg c49] at H
                        exact absurd H (by simp)
                    · rw [if_neg c48] at H
                      exact absurd H (by simp)
                  · rw [if_neg c46] at H
                    exact absurd H (by simp)
                · rw [if_neg c45] at H
                  have c45b0 : (a0_0 == 20) = false := beq_eq_false_iff_ne.mpr c45
                  have c45b1 : (a0_0 != 20) = true := bne_iff_ne.mpr c45
                  by_cases c64 : a0_0 = 24
                  · rw [if_pos c64] at H
                    have c64b0 : (a0_0 == 24) = true := beq_iff_eq.mpr c64
                    have c64b1 : (a0_0 != 24) = false := bne_eq_false_iff_eq.mpr c64
                    clear c64
                    by_cases c65 : 0 < (l0_4.length : Int)
                    · rw [if_pos c65] at H
                      have c65b0 : decide (0 < (l0_4.length : Int)) = true := decide_eq_true c65
                      have c65b1 : decide (0 < l0_4.length) = true := decide_eq_true (by omega)
                      clear c65
                      replace H := Option.bind_eq_some_iff.mp H
                      obtain ⟨t126, A660, H⟩ := H
                      replace H : ((show_side.f a0_3 (a0_2 == 1)).bind fun t127 => (if t126.size + t127.size ≤ 9223372036854775807 then (some (t126 ++ t127)) else (none))) = some r := H
                      have A66 := Aside0.mk A660
                      clear A660
                      replace H := Option.bind_eq_some_iff.mp H
                      obtain ⟨t127, A670, H⟩ := H
                      replace H : (if t126.size + t127.size ≤ 9223372036854775807 then (some (t126 ++ t127)) else (none)) = some r := H
                      have A67 := Aside0.mk A670
                      clear A670
                      by_cases c68 : t126.size + t127.size ≤ 9223372036854775807
                      · rw [if_pos c68] at H
                        have c68b0 := eq_true c68
                        have c68b1 : decide (t126.size + t127.size ≤ 9223372036854775807) = true := decide_eq_true c68
                        try have c68b2 : (9223372036854775807 < t126.size + t127.size) = False := eq_false (Nat.not_lt.2 c68)
                        obtain rfl := Option.some.inj H
                        simp only [Option.some.injEq, Prod.mk.injEq] at H
                        obtain ⟨rfl⟩ := H
                        go_enter Tryd.func9, Tryd.ntmps9
                        try go_wp2_with (first | ((with_reducible refine gate_dst (N := 1) rfl ?_); refine box_event ?hg (N := 1) ?hd (cs := #[.int .i64 a0_0, .int .i64 a0_1, .int .i64 a0_2, .string a0_3, .slice A0_4 l0_4.length c0_4]) (t := 26) ?hr ?_; (case hd => rfl); (case hg => rfl); (case hr => first | (go_simp; done) | (go_simp; rfl)); intro gb109 hg w69 hbox hb; have n0_ := Aside0.mk (below_step (by repeat (first | (with_reducible first | exact HB.out | apply below_alloc | apply pw_below_drewN | apply below_drew1) | exact HB.out)) hb); have n1_ := Aside0.mk (hbox); have n2_ := Aside0.mk ((by rw [hg]; exact (below_size (by repeat (first | (with_reducible first | exact HB.out | apply below_alloc | apply pw_below_drewN | apply below_drew1) | exact HB.out))) : w.heap.size ≤ gb109)); have n3_ := Aside0.mk ((by rw [hg]; exact (below_size (by repeat (first | (with_reducible first | exact HB.out | apply below_alloc | apply pw_below_drewN | apply below_drew1) | exact HB.out))) : w.heap.size ≤ gb109)); clear HB; have HB := n0_; have BK109 := n1_; have GW109 := n2_; have GE109 := n3_; clear n0_ n1_ n2_ n3_; clear hb hbox hg))
                        have n0_ := Aside0.mk (blk_drew BK109.out)
                        have n1_ := Aside0.mk (below_drew1 HB.out)
                        clear BK109
                        clear HB
                        have BK109 := n0_
                        have HB := n1_
                        clear n0_ n1_
                        refine start_ (n := 7) (S := fun w' => w'.cell? ⟨gb109, 0, none⟩ = some (.int .i64 a0_0) ∧ w'.cell? ⟨gb109, 1, none⟩ = some (.int .i64 a0_1) ∧ w'.cell? ⟨gb109, 2, none⟩ = some (.int .i64 a0_2) ∧ w'.cell? ⟨gb109, 3, none⟩ = some (.string a0_3) ∧ w'.cell? ⟨gb109, 4, none⟩ = some (.slice A0_4 l0_4.length c0_4)) (ds := []) #[false, false, false, false, false, false, false] (by kernel_rfl) rfl rfl ⟨(blk_cell BK109.out 0).trans rfl, (blk_cell BK109.out 1).trans rfl, (blk_cell BK109.out 2).trans rfl, (blk_cell BK109.out 3).trans rfl, (blk_cell BK109.out 4).trans rfl⟩ (fun hHeld => ?_)
                        generalize w69.drew = w70 at BK109 HB hHeld ⊢
                        refine pure_ (i := 0) (N := some 3) (v := ?_) (a' := ?_) #[true, false, false, false, false, false, false] rfl rfl (by kernel_rfl) (fun _ _ _ h => h) (Or.inl ⟨by rfl, ?_⟩) ?_ ?_
                        rotate_left
                        · intro w'
                          go_simp
                          with_reducible rfl
                        rotate_left
                        · simp only [Act.put, List.setIfInBounds_toArray, List.set_cons_zero, List.set_cons_succ, i64_w, i32_w]
                          rfl
                        refine pure_ (i := 3) (N := some 6) (v := ?_) (a' := ?_) #[true, false, false, true, false, false, false] rfl rfl (by kernel_rfl) (fun _ _ _ h => h) (Or.inl ⟨by rfl, ?_⟩) ?_ ?_
                        rotate_left
                        · intro w'
                          go_simp
                          with_reducible rfl
                        rotate_left
                        · simp only [Act.put, List.setIfInBounds_toArray, List.set_cons_zero, List.set_cons_succ, i64_w, i32_w]
                          rfl
                        refine take_ (i := 1) (N := some 4) (v := ?_) (a' := ?_) #[true, true, false, true, false, false, false] rfl rfl (by kernel_rfl) (fun _ _ _ h => h) (Or.inl ⟨by rfl, ?_⟩) hHeld ?_ ?_
                        rotate_left
                        · rintro w' ⟨s0, s1, s2, s3, s4⟩
                          go_simp
                          with_reducible rfl
                        rotate_left
                        · simp only [Act.put, List.setIfInBounds_toArray, List.set_cons_zero, List.set_cons_succ, i64_w, i32_w]
                          rfl
                        refine pure_ (i := 2) (N := some 5) (v := ?_) (a' := ?_) #[true, true, true, true, false, false, false] rfl rfl (by kernel_rfl) (fun _ _ _ h => h) (Or.inl ⟨by rfl, ?_⟩) ?_ ?_
                        rotate_left
                        · intro w'
                          go_simp
                          with_reducible rfl
                        rotate_left
                        · simp only [Act.put, List.setIfInBounds_toArray, List.set_cons_zero, List.set_cons_succ, i64_w, i32_w]
                          rfl
                        refine take_ (i := 4) (N := some 7) (v := ?_) (a' := ?_) #[true, true, true, true, true, false, false] rfl rfl (by kernel_rfl) (fun _ _ _ h => h) (Or.inl ⟨by rfl, ?_⟩) hHeld ?_ ?_
                        rotate_left
                        · rintro w' ⟨s0, s1, s2, s3, s4⟩
                          go_simp
                          with_reducible rfl
                        rotate_left
                        · simp only [Act.put, List.setIfInBounds_toArray, List.set_cons_zero, List.set_cons_succ, i64_w, i32_w]
                          rfl
                        refine one_ (i := 5) (N := some 8) #[true, true, true, true, true, true, false] rfl rfl (by kernel_rfl) (by decide) (fun K hK => ?_)
                        refine goes_ Tryd.func23 (by kernel_rfl) rfl #[.int .i64 a0_0] (by rfl) rfl rfl (by (try simp only [List.map_toArray, List.map_cons, List.map_nil]); first | done | rfl | (simp only [List.length_drop, List.length_take]; rfl)) ?_
                        with_reducible refine (show_few.calls k a0_0 t110 _ A2.out).mono ?_
                        rintro e w' ⟨rfl, ⟨nd, rfl⟩⟩
                        refine ⟨_, rfl, ?_⟩
                        refine hK.out _ _ ⟨(blk_cell BK109.out 0).trans rfl, (blk_cell BK109.out 1).trans rfl, (blk_cell BK109.out 2).trans rfl, (blk_cell BK109.out 3).trans rfl, (blk_cell BK109.out 4).trans rfl⟩ (fun hHeld => ?_)
                        clear hK K
                        refine norm_ (a' := ?_) ?_ ?_
                        rotate_left
                        · show Act.put _ (some 8) _ = _
                          simp only [Act.put, List.setIfInBounds_toArray, List.set_cons_zero, List.set_cons_succ, i64_w, i32_w]
                          rfl
                        refine pure_ (i := 6) (N := some 9) (v := ?_) (a' := ?_) #[true, true, true, true, true, true, true] rfl rfl (by kernel_rfl) (fun _ _ _ h => h) (Or.inl ⟨by rfl, ?_⟩) ?_ ?_
                        rotate_left
                        · intro w'
                          go_simp
                          with_reducible rfl
                        rotate_left
                        · simp only [Act.put, List.setIfInBounds_toArray, List.set_cons_zero, List.set_cons_succ, i64_w, i32_w]
                          rfl
                        refine done_ (by kernel_rfl) ?_
                        have hcz71_0 : w70.cell? ⟨gb109, 0, none⟩ = some (.int .i64 a0_0) := (blk_cell BK109.out 0).trans rfl
                        have hcz71_1 : w70.cell? ⟨gb109, 1, none⟩ = some (.int .i64 a0_1) := (blk_cell BK109.out 1).trans rfl
                        have hcz71_2 : w70.cell? ⟨gb109, 2, none⟩ = some (.int .i64 a0_2) := (blk_cell BK109.out 2).trans rfl
                        have hcz71_3 : w70.cell? ⟨gb109, 3, none⟩ = some (.string a0_3) := (blk_cell BK109.out 3).trans rfl
                        have hcz71_4 : w70.cell? ⟨gb109, 4, none⟩ = some (.slice A0_4 l0_4.length c0_4) := (blk_cell BK109.out 4).trans rfl
                        have hfz71_0 := blk_frozen BK109.out 0
                        have hfz71_1 := blk_frozen BK109.out 1
                        have hfz71_2 := blk_frozen BK109.out 2
                        have hfz71_3 := blk_frozen BK109.out 3
                        have hfz71_4 := blk_frozen BK109.out 4
                        try go_wp2
                        (try (rw [drewN_self w70]; generalize hq_ : World.drewN w70 _ = w70; have n0_ : Aside0 (w70.heap[gb109]? = some (.cells #[.int .i64 a0_0, .int .i64 a0_1, .int .i64 a0_2, .string a0_3, .slice A0_4 l0_4.length c0_4] 26 (0, 0))) := ⟨by rw [← hq_]; exact (by (with_reducible repeat (first | refine blk_drewN ?_ _ | refine blk_drew ?_ | refine blk_alloc ?_ _)); exact BK109.out)⟩; have n1_ : Aside0 (Below w.heap.size w w70) := ⟨by rw [← hq_]; exact (by repeat (first | (with_reducible first | exact HB.out | apply below_alloc | apply pw_below_drewN | apply below_drew1 | refine below_set ?_ GE109.out) | exact HB.out))⟩; clear BK109 HB hq_; have BK109 := n0_; have HB := n1_; clear n0_ n1_))
                        have n0_ := Aside0.mk (blk_drew BK109.out)
                        have n1_ := Aside0.mk (below_drew1 HB.out)
                        clear BK109
                        clear HB
                        have BK109 := n0_
                        have HB := n1_
                        clear n0_ n1_
                        have p125 : 0 ≤ (0 : Int) := (by omega)
                        have q125 : 0 < (l0_4.length : Int) := of_decide_eq_true (by first | (with_reducible assumption) | assumption)
                        obtain ⟨ad125, A125_4, c125_4, e125, hx125_0, hx125_1, hx125_2, hx125_3, hx125_4, hl125_4, hi125_4⟩ := at_T26 HR0_4.out 0 p125 q125
                        have hw125_4 := hx125_4
                        (try rw [show ((0 : Int)).toNat = 0 from rfl] at hw125_4)
                        (try rw [show 0 * 5 = 0 from rfl] at hw125_4)
                        (try rw [Addr.add_zero'] at hw125_4)
                        have hw125_3 := hx125_3
                        (try rw [show ((0 : Int)).toNat = 0 from rfl] at hw125_3)
                        (try rw [show 0 * 5 = 0 from rfl] at hw125_3)
                        (try rw [Addr.add_zero'] at hw125_3)
                        have hw125_2 := hx125_2
                        (try rw [show ((0 : Int)).toNat = 0 from rfl] at hw125_2)
                        (try rw [show 0 * 5 = 0 from rfl] at hw125_2)
                        (try rw [Addr.add_zero'] at hw125_2)
                        have hw125_1 := hx125_1
                        (try rw [show ((0 : Int)).toNat = 0 from rfl] at hw125_1)
                        (try rw [show 0 * 5 = 0 from rfl] at hw125_1)
                        (try rw [Addr.add_zero'] at hw125_1)
                        have hw125_0 := hx125_0
                        (try rw [show ((0 : Int)).toNat = 0 from rfl] at hw125_0)
                        (try rw [show 0 * 5 = 0 from rfl] at hw125_0)
                        (try rw [Addr.add_zero'] at hw125_0)
                        cases e125
                        have qi125 : (0 < l0_4.length) = True := eq_true (by omega)
                        (try rw [show ((0 : Int)).toNat = 0 from rfl] at hx125_0)
                        (try rw [show 0 * 5 = 0 from rfl] at hx125_0)
                        (try rw [Addr.add_zero'] at hx125_0)
                        (try rw [show ((0 : Int)).toNat = 0 from rfl] at hx125_1)
                        (try rw [show 0 * 5 = 0 from rfl] at hx125_1)
                        (try rw [Addr.add_zero'] at hx125_1)
                        (try rw [show ((0 : Int)).toNat = 0 from rfl] at hx125_2)
                        (try rw [show 0 * 5 = 0 from rfl] at hx125_2)
                        (try rw [Addr.add_zero'] at hx125_2)
                        (try rw [show ((0 : Int)).toNat = 0 from rfl] at hx125_3)
                        (try rw [show 0 * 5 = 0 from rfl] at hx125_3)
                        (try rw [Addr.add_zero'] at hx125_3)
                        (try rw [show ((0 : Int)).toNat = 0 from rfl] at hx125_4)
                        (try rw [show 0 * 5 = 0 from rfl] at hx125_4)
                        (try rw [Addr.add_zero'] at hx125_4)
                        replace hx125_0 := (HB.out.cell (World.block_lt_of_cell? w _ hx125_0)).trans hx125_0
                        replace hx125_1 := (HB.out.cell (World.block_lt_of_cell? w _ hx125_1)).trans hx125_1
                        replace hx125_2 := (HB.out.cell (World.block_lt_of_cell? w _ hx125_2)).trans hx125_2
                        replace hx125_3 := (HB.out.cell (World.block_lt_of_cell? w _ hx125_3)).trans hx125_3
                        replace hx125_4 := (HB.out.cell (World.block_lt_of_cell? w _ hx125_4)).trans hx125_4
                        have HR125_4 := Aside0.mk hi125_4
                        have HC125_4 := Aside0.mk hl125_4
                        clear hi125_4 hl125_4
                        replace p125 := eq_true p125
                        replace q125 := eq_true q125
                        refine start_ (n := 13) (S := fun w' => w'.cell? ⟨gb109, 0, none⟩ = some (.int .i64 a0_0) ∧ w'.cell? ⟨gb109, 1, none⟩ = some (.int .i64 a0_1) ∧ w'.cell? ⟨gb109, 2, none⟩ = some (.int .i64 a0_2) ∧ w'.cell? ⟨gb109, 3, none⟩ = some (.string a0_3) ∧ w'.cell? ⟨gb109, 4, none⟩ = some (.slice (some ad125) l0_4.length c0_4) ∧ w'.cell? ad125 = some (.int .i64 ((rd_T26 l0_4 0).f0)) ∧ w'.cell? ⟨ad125.block, ad125.off + 1, none⟩ = some (.int .i64 ((rd_T26 l0_4 0).f1)) ∧ w'.cell? ⟨ad125.block, ad125.off + 2, none⟩ = some (.int .i64 ((rd_T26 l0_4 0).f2)) ∧ w'.cell? ⟨ad125.block, ad125.off + 3, none⟩ = some (.string ((rd_T26 l0_4 0).f3)) ∧ w'.cell? ⟨ad125.block, ad125.off + 4, none⟩ = some (.slice A125_4 ((rd_T26 l0_4 0).f4).length c125_4)) (ds := []) #[false, false, false, false, false, false, false, false, false, false, false, false, false] (by kernel_rfl) rfl rfl ⟨(blk_cell BK109.out 0).trans rfl, (blk_cell BK109.out 1).trans rfl, (blk_cell BK109.out 2).trans rfl, (blk_cell BK109.out 3).trans rfl, (blk_cell BK109.out 4).trans rfl, ((HB.out.cell (World.block_lt_of_cell? w _ hw125_0)).trans hw125_0), ((HB.out.cell (World.block_lt_of_cell? w _ hw125_1)).trans hw125_1), ((HB.out.cell (World.block_lt_of_cell? w _ hw125_2)).trans hw125_2), ((HB.out.cell (World.block_lt_of_cell? w _ hw125_3)).trans hw125_3), ((HB.out.cell (World.block_lt_of_cell? w _ hw125_4)).trans hw125_4)⟩ (fun hHeld => ?_); refine with_tabW show_Expr.tab19 show_Expr.bits19 (fun HT_ HW_ => ?_)
                        generalize w70.drew = w72 at BK109 HB HR125_4 hx125_0 hx125_1 hx125_2 hx125_3 hx125_4 hHeld ⊢
                        refine pure_ (i := 0) (N := some 75) (v := ?_) (a' := ?_) #[true, false, false, false, false, false, false, false, false, false, false, false, false] rfl rfl (any_of HT_.out (by kernel_rfl)) (fun _ _ _ h => h) (Or.inl ⟨by rfl, ?_⟩) ?_ ?_
                        rotate_left
                        · intro w'
                          go_simp
                          with_reducible rfl
                        rotate_left
                        · simp only [Act.put, List.setIfInBounds_toArray, List.set_cons_zero, List.set_cons_succ, i64_w, i32_w]
                          rfl
                        refine pure_ (i := 5) (N := some 80) (v := ?_) (a' := ?_) #[true, false, false, false, false, true, false, false, false, false, false, false, false] rfl rfl (any_of HT_.out (by kernel_rfl)) (fun _ _ _ h => h) (Or.inl ⟨by rfl, ?_⟩) ?_ ?_
                        rotate_left
                        · intro w'
                          go_simp
                          with_reducible rfl
                        rotate_left
                        · simp only [Act.put, List.setIfInBounds_toArray, List.set_cons_zero, List.set_cons_succ, i64_w, i32_w]
                          rfl
                        refine pure_ (i := 7) (N := some 82) (v := ?_) (a' := ?_) #[true, false, false, false, false, true, false, true, false, false, false, false, false] rfl rfl (any_of HT_.out (by kernel_rfl)) (fun _ _ _ h => h) (Or.inl ⟨by rfl, ?_⟩) ?_ ?_
                        rotate_left
                        · intro w'
                          go_simp
                          with_reducible rfl
                        rotate_left
                        · simp only [Act.put, List.setIfInBounds_toArray, List.set_cons_zero, List.set_cons_succ, i64_w, i32_w]
                          rfl
                        refine take_ (i := 1) (N := some 76) (v := ?_) (a' := ?_) #[true, true, false, false, false, true, false, true, false, false, false, false, false] rfl rfl (take_ofW HT_.out HW_.out (by kernel_rfl)) (fun _ _ _ h => h) (Or.inl ⟨by rfl, ?_⟩) hHeld ?_ ?_
                        rotate_left
                        · rintro w' ⟨s0, s1, s2, s3, s4, s5, s6, s7, s8, s9⟩
                          go_simp
                          with_reducible rfl
                        rotate_left
                        · simp only [Act.put, List.setIfInBounds_toArray, List.set_cons_zero, List.set_cons_succ, i64_w, i32_w]
                          rfl
                        refine pure_ (i := 2) (N := some 77) (v := ?_) (a' := ?_) #[true, true, true, false, false, true, false, true, false, false, false, false, false] rfl rfl (any_of HT_.out (by kernel_rfl)) (fun _ _ _ h => h) (Or.inl ⟨by rfl, ?_⟩) ?_ ?_
                        rotate_left
                        · intro w'
                          go_simp
                          with_reducible rfl
                        rotate_left
                        · simp only [Act.put, List.setIfInBounds_toArray, List.set_cons_zero, List.set_cons_succ, i64_w, i32_w]
                          rfl
                        refine take_ (i := 3) (N := some 78) (v := ?_) (a' := ?_) #[true, true, true, true, false, true, false, true, false, false, false, false, false] rfl rfl (take_ofW HT_.out HW_.out (by kernel_rfl)) (fun _ _ _ h => h) (Or.inl ⟨by rfl, ?_⟩) hHeld ?_ ?_
                        rotate_left
                        · rintro w' ⟨s0, s1, s2, s3, s4, s5, s6, s7, s8, s9⟩
                          go_simp
                          with_reducible rfl
                        rotate_left
                        · simp only [Act.put, List.setIfInBounds_toArray, List.set_cons_zero, List.set_cons_succ, i64_w, i32_w]
                          rfl
                        refine take_ (i := 6) (N := some 81) (v := ?_) (a' := ?_) #[true, true, true, true, false, true, true, true, false, false, false, false, false] rfl rfl (take_ofW HT_.out HW_.out (by kernel_rfl)) (fun _ _ _ h => h) (Or.inl ⟨by rfl, ?_⟩) hHeld ?_ ?_
                        rotate_left
                        · rintro w' ⟨s0, s1, s2, s3, s4, s5, s6, s7, s8, s9⟩
                          go_simp
                          with_reducible rfl
                        rotate_left
                        · simp only [Act.put, List.setIfInBounds_toArray, List.set_cons_zero, List.set_cons_succ, i64_w, i32_w]
                          rfl
                        refine take_ (i := 8) (N := some 83) (v := ?_) (a' := ?_) #[true, true, true, true, false, true, true, true, true, false, false, false, false] rfl rfl (take_ofW HT_.out HW_.out (by kernel_rfl)) (fun _ _ _ h => h) (Or.inl ⟨by rfl, ?_⟩) hHeld ?_ ?_
                        rotate_left
                        · rintro w' ⟨s0, s1, s2, s3, s4, s5, s6, s7, s8, s9⟩
                          go_simp
                          with_reducible rfl
                        rotate_left
                        · simp only [Act.put, List.setIfInBounds_toArray, List.set_cons_zero, List.set_cons_succ, i64_w, i32_w]
                          rfl
                        refine pure_ (i := 9) (N := some 84) (v := ?_) (a' := ?_) #[true, true, true, true, false, true, true, true, true, true, false, false, false] rfl rfl (any_of HT_.out (by kernel_rfl)) (fun _ _ _ h => h) (Or.inl ⟨by rfl, ?_⟩) ?_ ?_
                        rotate_left
                        · intro w'
                          go_simp
                          with_reducible rfl
                        rotate_left
                        · simp only [Act.put, List.setIfInBounds_toArray, List.set_cons_zero, List.set_cons_succ, i64_w, i32_w]
                          rfl
                        refine one_ (i := 4) (N := some 79) #[true, true, true, true, true, true, true, true, true, true, false, false, false] rfl rfl (one_of HT_.out (by kernel_rfl)) (by decide) (fun K hK => ?_)
                        refine goes_ Tryd.func26 (by kernel_rfl) rfl #[.agg #[.int .i64 ((rd_T26 l0_4 0).f0), .int .i64 ((rd_T26 l0_4 0).f1), .int .i64 ((rd_T26 l0_4 0).f2), .string ((rd_T26 l0_4 0).f3), .slice A125_4 ((rd_T26 l0_4 0).f4).length c125_4]] (by rfl) rfl rfl (by (try simp only [List.map_toArray, List.map_cons, List.map_nil]); first | done | rfl | (simp only [List.length_drop, List.length_take]; rfl)) ?_
                        with_reducible refine (show_in.calls (show_Expr.f k) (ih k (by omega)) k ((rd_T26 l0_4 0).f0) ((rd_T26 l0_4 0).f1) ((rd_T26 l0_4 0).f2) ((rd_T26 l0_4 0).f3) _ _ ((rd_T26 l0_4 0).f4) t126 _ ?side1 ?side2 ?side3 A66.out).mono ?_
                        (case side1 => repeat (first | exact (Kd.C_below HR125_4.out HB.out) | (with_reducible refine Kd.C_alloc ?_ _) | (with_reducible refine Kd.C_drewN ?_ _) | (with_reducible refine Kd.C_drew ?_)))
                        (case side2 => exact HC125_4.out)
                        (case side3 => exact GlobW.below HG.out (by repeat (first | (with_reducible first | exact HB.out | apply below_alloc | apply pw_below_drewN | apply below_drew1 | refine below_set ?_ GE109.out) | exact HB.out)))
                        rintro e w73 ⟨rfl, hb⟩
                        refine ⟨_, rfl, ?_⟩
                        have n0_ := Aside0.mk (blk_below (g := gb109) (o := .cells #[.int .i64 a0_0, .int .i64 a0_1, .int .i64 a0_2, .string a0_3, .slice (some ad125) l0_4.length c0_4] 26 (0, 0)) (by (with_reducible repeat (first | refine blk_drewN ?_ _ | refine blk_drew ?_ | refine blk_alloc ?_ _)); exact BK109.out) hb)
                        have n1_ := Aside0.mk (below_step (by repeat (first | (with_reducible first | exact HB.out | apply below_alloc | apply pw_below_drewN | apply below_drew1 | refine below_set ?_ GE109.out) | exact HB.out)) hb)
                        clear BK109
                        clear HB
                        have BK109 := n0_
                        have HB := n1_
                        clear n0_ n1_
                        (try clear hb)
                        (try clear hb2)
                        (try clear hk)
                        (try clear hi)
                        refine hK.out _ _ ⟨(blk_cell BK109.out 0).trans rfl, (blk_cell BK109.out 1).trans rfl, (blk_cell BK109.out 2).trans rfl, (blk_cell BK109.out 3).trans rfl, (blk_cell BK109.out 4).trans rfl, ((HB.out.cell (World.block_lt_of_cell? w _ hw125_0)).trans hw125_0), ((HB.out.cell (World.block_lt_of_cell? w _ hw125_1)).trans hw125_1), ((HB.out.cell (World.block_lt_of_cell? w _ hw125_2)).trans hw125_2), ((HB.out.cell (World.block_lt_of_cell? w _ hw125_3)).trans hw125_3), ((HB.out.cell (World.block_lt_of_cell? w _ hw125_4)).trans hw125_4)⟩ (fun hHeld => ?_)
                        clear hK K
                        refine norm_ (a' := ?_) ?_ ?_
                        rotate_left
                        · show Act.put _ (some 79) _ = _
                          simp only [Act.put, List.setIfInBounds_toArray, List.set_cons_zero, List.set_cons_succ, i64_w, i32_w]
                          rfl
                        refine one_ (i := 10) (N := some 85) #[true, true, true, true, true, true, true, true, true, true, true, false, false] rfl rfl (one_of HT_.out (by kernel_rfl)) (by decide) (fun K hK => ?_)
                        refine goes_ Tryd.func27 (by kernel_rfl) rfl #[.string a0_3, .bool (a0_2 == 1)] (by rfl) rfl rfl (by (try simp only [List.map_toArray, List.map_cons, List.map_nil]); first | done | rfl | (simp only [List.length_drop, List.length_take]; rfl)) ?_
                        with_reducible refine (show_side.calls a0_3 (a0_2 == 1) t127 _ A67.out).mono ?_
                        rintro e w' ⟨rfl, ⟨nd, rfl⟩⟩
                        refine ⟨_, rfl, ?_⟩
                        refine hK.out _ _ ⟨(blk_cell BK109.out 0).trans rfl, (blk_cell BK109.out 1).trans rfl, (blk_cell BK109.out 2).trans rfl, (blk_cell BK109.out 3).trans rfl, (blk_cell BK109.out 4).trans rfl, ((HB.out.cell (World.block_lt_of_cell? w _ hw125_0)).trans hw125_0), ((HB.out.cell (World.block_lt_of_cell? w _ hw125_1)).trans hw125_1), ((HB.out.cell (World.block_lt_of_cell? w _ hw125_2)).trans hw125_2), ((HB.out.cell (World.block_lt_of_cell? w _ hw125_3)).trans hw125_3), ((HB.out.cell (World.block_lt_of_cell? w _ hw125_4)).trans hw125_4)⟩ (fun hHeld => ?_)
                        clear hK K
                        refine norm_ (a' := ?_) ?_ ?_
                        rotate_left
                        · show Act.put _ (some 85) _ = _
                          simp only [Act.put, List.setIfInBounds_toArray, List.set_cons_zero, List.set_cons_succ, i64_w, i32_w]
                          rfl
                        refine pure_ (i := 11) (N := some 86) (v := ?_) (a' := ?_) #[true, true, true, true, true, true, true, true, true, true, true, true, false] rfl rfl (any_of HT_.out (by kernel_rfl)) (fun _ _ _ h => h) (Or.inl ⟨by rfl, ?_⟩) ?_ ?_
                        rotate_left
                        · intro w'
                          go_simp
                          with_reducible rfl
                        rotate_left
                        · simp only [Act.put, List.setIfInBounds_toArray, List.set_cons_zero, List.set_cons_succ, i64_w, i32_w]
                          rfl
                        refine pure_ (i := 12) (N := some 2) (v := ?_) (a' := ?_) #[true, true, true, true, true, true, true, true, true, true, true, true, true] rfl rfl (any_of HT_.out (by kernel_rfl)) (fun _ _ _ h => h) (Or.inl ⟨by rfl, ?_⟩) ?_ ?_
                        rotate_left
                        · intro w'
                          go_simp
                          with_reducible rfl
                        rotate_left
                        · simp only [Act.put, List.setIfInBounds_toArray, List.set_cons_zero, List.set_cons_succ, i64_w, i32_w]
                          rfl
                        refine done_ (done_of HT_.out (by kernel_rfl)) ?_
                        try go_wp2
                        go_ret
                        exact ⟨by first | rfl | (simp [errW_none, errW_some] <;> rfl) | (simp [*, errW_none, errW_some] <;> rfl), by repeat (first | (with_reducible first | exact HB.out | apply below_alloc | apply pw_below_drewN | apply below_drew1 | refine below_set ?_ GE109.out) | exact HB.out)⟩
                      · rw [if_neg c68] at H
                        exact absurd H (by simp)
                    · rw [if_neg c65] at H
                      exact absurd H (by simp)
                  · rw [if_neg c64] at H
                    have c64b0 : (a0_0 == 24) = false := beq_eq_false_iff_ne.mpr c64
                    have c64b1 : (a0_0 != 24) = true := bne_iff_ne.mpr c64
                    by_cases c74 : a0_0 = 25
                    · rw [if_pos c74] at H
                      have c74b0 : (a0_0 == 25) = true := beq_iff_eq.mpr c74
                      have c74b1 : (a0_0 != 25) = false := bne_eq_false_iff_eq.mpr c74
                      clear c74
                      by_cases c75 : 6 + a0_3.size ≤ 9223372036854775807
                      · rw [if_pos c75] at H
                        have c75b0 := eq_true c75
                        have c75b1 : decide (6 + a0_3.size ≤ 9223372036854775807) = true := decide_eq_true c75
                        try have c75b2 : (9223372036854775807 < 6 + a0_3.size) = False := eq_false (Nat.not_lt.2 c75)
                        by_cases c76 : ((⟨#[109, 101, 114, 103, 101, 40]⟩ : ByteArray) ++ a0_3).size + 2 ≤ 9223372036854775807
                        · rw [if_pos c76] at H
                          have c76b0 := eq_true c76
                          have c76b1 : decide (((⟨#[109, 101, 114, 103, 101, 40]⟩ : ByteArray) ++ a0_3).size + 2 ≤ 9223372036854775807) = true := decide_eq_true c76
                          try have c76b2 : (9223372036854775807 < ((⟨#[109, 101, 114, 103, 101, 40]⟩ : ByteArray) ++ a0_3).size + 2) = False := eq_false (Nat.not_lt.2 c76)
                          (try (have c76b4 := c76b2; simp only [ByteArray.size_append, show (⟨#[109, 101, 114, 103, 101, 40]⟩ : ByteArray).size = 6 from rfl] at c76b4))
                          by_cases c77 : 0 < (l0_4.length : Int)
                          · rw [if_pos c77] at H
                            have c77b0 : decide (0 < (l0_4.length : Int)) = true := decide_eq_true c77
                            have c77b1 : decide (0 < l0_4.length) = true := decide_eq_true (by omega)
                            clear c77
                            replace H := Option.bind_eq_some_iff.mp H
                            obtain ⟨t129, A780, H⟩ := H
                            replace H : (if (((⟨#[109, 101, 114, 103, 101, 40]⟩ : ByteArray) ++ a0_3) ++ (⟨#[44, 32]⟩ : ByteArray)).size + t129.size ≤ 9223372036854775807 then (if ((((⟨#[109, 101, 114, 103, 101, 40]⟩ : ByteArray) ++ a0_3) ++ (⟨#[44, 32]⟩ : ByteArray)) ++ t129).size + 2 ≤ 9223372036854775807 then (if 1 < (l0_4.length : Int) then ((show_Expr.f k ((rd_T26 l0_4 1).f0) ((rd_T26 l0_4 1).f1) ((rd_T26 l0_4 1).f2) ((rd_T26 l0_4 1).f3) ((rd_T26 l0_4 1).f4)).bind fun t131 => (if (((((⟨#[109, 101, 114, 103, 101, 40]⟩ : ByteArray) ++ a0_3) ++ (⟨#[44, 32]⟩ : ByteArray)) ++ t129) ++ (⟨#[44, 32]⟩ : ByteArray)).size + t131.size ≤ 9223372036854775807 then (if ((((((⟨#[109, 101, 114, 103, 101, 40]⟩ : ByteArray) ++ a0_3) ++ (⟨#[44, 32]⟩ : ByteArray)) ++ t129) ++ (⟨#[44, 32]⟩ : ByteArray)) ++ t131).size + 1 ≤ 9223372036854775807 then (some (((((((⟨#[109, 101, 114, 103, 101, 40]⟩ : ByteArray) ++ a0_3) ++ (⟨#[44, 32]⟩ : ByteArray)) ++ t129) ++ (⟨#[44, 32]⟩ : ByteArray)) ++ t131) ++ (⟨#[41]⟩ : ByteArray))) else (none)) else (none))) else (none)) else (none)) else (none)) = some r := H
                            have A78 := Aside0.mk A780
                            clear A780
                            by_cases c79 : (((⟨#[109, 101, 114, 103, 101, 40]⟩ : ByteArray) ++ a0_3) ++ (⟨#[44, 32]⟩ : ByteArray)).size + t129.size ≤ 9223372036854775807
                            · rw [if_pos c79] at H
                              have c79b0 := eq_true c79
                              have c79b1 : decide ((((⟨#[109, 101, 114, 103, 101, 40]⟩ : ByteArray) ++ a0_3) ++ (⟨#[44, 32]⟩ : ByteArray)).size + t129.size ≤ 9223372036854775807) = true := decide_eq_true c79
                              try have c79b2 : (9223372036854775807 < (((⟨#[109, 101, 114, 103, 101, 40]⟩ : ByteArray) ++ a0_3) ++ (⟨#[44, 32]⟩ : ByteArray)).size + t129.size) = False := eq_false (Nat.not_lt.2 c79)
                              (try (have c79b4 := c79b2; simp only [ByteArray.size_append, show (⟨#[109, 101, 114, 103, 101, 40]⟩ : ByteArray).size = 6 from rfl, show (⟨#[44, 32]⟩ : ByteArray).size = 2 from rfl] at c79b4))
                              by_cases c80 : ((((⟨#[109, 101, 114, 103, 101, 40]⟩ : ByteArray) ++ a0_3) ++ (⟨#[44, 32]⟩ : ByteArray)) ++ t129).size + 2 ≤ 9223372036854775807
                              · rw [if_pos c80] at H
                                have c80b0 := eq_true c80
                                have c80b1 : decide (((((⟨#[109, 101, 114, 103, 101, 40]⟩ : ByteArray) ++ a0_3) ++ (⟨#[44, 32]⟩ : ByteArray)) ++ t129).size + 2 ≤ 9223372036854775807) = true := decide_eq_true c80
                                try have c80b2 : (9223372036854775807 < ((((⟨#[109, 101, 114, 103, 101, 40]⟩ : ByteArray) ++ a0_3) ++ (⟨#[44, 32]⟩ : ByteArray)) ++ t129).size + 2) = False := eq_false (Nat.not_lt.2 c80)
                                (try (have c80b4 := c80b2; simp only [ByteArray.size_append, show (⟨#[109, 101, 114, 103, 101, 40]⟩ : ByteArray).size = 6 from rfl, show (⟨#[44, 32]⟩ : ByteArray).size = 2 from rfl] at c80b4))
                                by_cases c81 : 1 < (l0_4.length : Int)
                                · rw [if_pos c81] at H
                                  have c81b0 : decide (1 < (l0_4.length : Int)) = true := decide_eq_true c81
                                  have c81b1 : decide (1 < l0_4.length) = true := decide_eq_true (by omega)
                                  clear c81
                                  replace H := Option.bind_eq_some_iff.mp H
                                  obtain ⟨t131, A820, H⟩ := H
                                  replace H : (if (((((⟨#[109, 101, 114, 103, 101, 40]⟩ : ByteArray) ++ a0_3) ++ (⟨#[44, 32]⟩ : ByteArray)) ++ t129) ++ (⟨#[44, 32]⟩ : ByteArray)).size + t131.size ≤ 9223372036854775807 then (if ((((((⟨#[109, 101, 114, 103, 101, 40]⟩ : ByteArray) ++ a0_3) ++ (⟨#[44, 32]⟩ : ByteArray)) ++ t129) ++ (⟨#[44, 32]⟩ : ByteArray)) ++ t131).size + 1 ≤ 9223372036854775807 then (some (((((((⟨#[109, 101, 114, 103, 101, 40]⟩ : ByteArray) ++ a0_3) ++ (⟨#[44, 32]⟩ : ByteArray)) ++ t129) ++ (⟨#[44, 32]⟩ : ByteArray)) ++ t131) ++ (⟨#[41]⟩ : ByteArray))) else (none)) else (none)) = some r := H
                                  have A82 := Aside0.mk A820
                                  clear A820
                                  by_cases c83 : (((((⟨#[109, 101, 114, 103, 101, 40]⟩ : ByteArray) ++ a0_3) ++ (⟨#[44, 32]⟩ : ByteArray)) ++ t129) ++ (⟨#[44, 32]⟩ : ByteArray)).size + t131.size ≤ 9223372036854775807
                                  · rw [if_pos c83] at H
                                    have c83b0 := eq_true c83
                                    have c83b1 : decide ((((((⟨#[109, 101, 114, 103, 101, 40]⟩ : ByteArray) ++ a0_3) ++ (⟨#[44, 32]⟩ : ByteArray)) ++ t129) ++ (⟨#[44, 32]⟩ : ByteArray)).size + t131.size ≤ 9223372036854775807) = true := decide_eq_true c83
                                    try have c83b2 : (9223372036854775807 < (((((⟨#[109, 101, 114, 103, 101, 40]⟩ : ByteArray) ++ a0_3) ++ (⟨#[44, 32]⟩ : ByteArray)) ++ t129) ++ (⟨#[44, 32]⟩ : ByteArray)).size + t131.size) = False := eq_false (Nat.not_lt.2 c83)
                                    (try (have c83b4 := c83b2; simp only [ByteArray.size_append, show (⟨#[109, 101, 114, 103, 101, 40]⟩ : ByteArray).size = 6 from rfl, show (⟨#[44, 32]⟩ : ByteArray).size = 2 from rfl] at c83b4))
                                    by_cases c84 : ((((((⟨#[109, 101, 114, 103, 101, 40]⟩ : ByteArray) ++ a0_3) ++ (⟨#[44, 32]⟩ : ByteArray)) ++ t129) ++ (⟨#[44, 32]⟩ : ByteArray)) ++ t131).size + 1 ≤ 9223372036854775807
                                    · rw [if_pos c84] at H
                                      have c84b0 := eq_true c84
                                      have c84b1 : decide (((((((⟨#[109, 101, 114, 103, 101, 40]⟩ : ByteArray) ++ a0_3) ++ (⟨#[44, 32]⟩ : ByteArray)) ++ t129) ++ (⟨#[44, 32]⟩ : ByteArray)) ++ t131).size + 1 ≤ 9223372036854775807) = true := decide_eq_true c84
                                      try have c84b2 : (9223372036854775807 < ((((((⟨#[109, 101, 114, 103, 101, 40]⟩ : ByteArray) ++ a0_3) ++ (⟨#[44, 32]⟩ : ByteArray)) ++ t129) ++ (⟨#[44, 32]⟩ : ByteArray)) ++ t131).size + 1) = False := eq_false (Nat.not_lt.2 c84)
                                      (try (have c84b4 := c84b2; simp only [ByteArray.size_append, show (⟨#[109, 101, 114, 103, 101, 40]⟩ : ByteArray).size = 6 from rfl, show (⟨#[44, 32]⟩ : ByteArray).size = 2 from rfl] at c84b4))
                                      obtain rfl := Option.some.inj H
                                      simp only [Option.some.injEq, Prod.mk.injEq] at H
                                      obtain ⟨rfl⟩ := H
                                      go_enter Tryd.func9, Tryd.ntmps9
                                      try go_wp2_with (first | ((with_reducible refine gate_dst (N := 1) rfl ?_); refine box_event ?hg (N := 1) ?hd (cs := #[.int .i64 a0_0, .int .i64 a0_1, .int .i64 a0_2, .string a0_3, .slice A0_4 l0_4.length c0_4]) (t := 26) ?hr ?_; (case hd => rfl); (case hg => rfl); (case hr => first | (go_simp; done) | (go_simp; rfl)); intro gb109 hg w85 hbox hb; have n0_ := Aside0.mk (below_step (by repeat (first | (with_reducible first | exact HB.out | apply below_alloc | apply pw_below_drewN | apply below_drew1) | exact HB.out)) hb); have n1_ := Aside0.mk (hbox); have n2_ := Aside0.mk ((by rw [hg]; exact (below_size (by repeat (first | (with_reducible first | exact HB.out | apply below_alloc | apply pw_below_drewN | apply below_drew1) | exact HB.out))) : w.heap.size ≤ gb109)); have n3_ := Aside0.mk ((by rw [hg]; exact (below_size (by repeat (first | (with_reducible first | exact HB.out | apply below_alloc | apply pw_below_drewN | apply below_drew1) | exact HB.out))) : w.heap.size ≤ gb109)); clear HB; have HB := n0_; have BK109 := n1_; have GW109 := n2_; have GE109 := n3_; clear n0_ n1_ n2_ n3_; clear hb hbox hg))
                                      have n0_ := Aside0.mk (blk_drew BK109.out)
                                      have n1_ := Aside0.mk (below_drew1 HB.out)
                                      clear BK109
                                      clear HB
                                      have BK109 := n0_
                                      have HB := n1_
                                      clear n0_ n1_
                                      refine start_ (n := 7) (S := fun w' => w'.cell? ⟨gb109, 0, none⟩ = some (.int .i64 a0_0) ∧ w'.cell? ⟨gb109, 1, none⟩ = some (.int .i64 a0_1) ∧ w'.cell? ⟨gb109, 2, none⟩ = some (.int .i64 a0_2) ∧ w'.cell? ⟨gb109, 3, none⟩ = some (.string a0_3) ∧ w'.cell? ⟨gb109, 4, none⟩ = some (.slice A0_4 l0_4.length c0_4)) (ds := []) #[false, false, false, false, false, false, false] (by kernel_rfl) rfl rfl ⟨(blk_cell BK109.out 0).trans rfl, (blk_cell BK109.out 1).trans rfl, (blk_cell BK109.out 2).trans rfl, (blk_cell BK109.out 3).trans rfl, (blk_cell BK109.out 4).trans rfl⟩ (fun hHeld => ?_)
                                      generalize w85.drew = w86 at BK109 HB hHeld ⊢
                                      refine pure_ (i := 0) (N := some 3) (v := ?_) (a' := ?_) #[true, false, false, false, false, false, false] rfl rfl (by kernel_rfl) (fun _ _ _ h => h) (Or.inl ⟨by rfl, ?_⟩) ?_ ?_
                                      rotate_left
                                      · intro w'
                                        go_simp
                                        with_reducible rfl
                                      rotate_left
                                      · simp only [Act.put, List.setIfInBounds_toArray, List.set_cons_zero, List.set_cons_succ, i64_w, i32_w]
                                        rfl
                                      refine pure_ (i := 3) (N := some 6) (v := ?_) (a' := ?_) #[true, false, false, true, false, false, false] rfl rfl (by kernel_rfl) (fun _ _ _ h => h) (Or.inl ⟨by rfl, ?_⟩) ?_ ?_
                                      rotate_left
                                      · intro w'
                                        go_simp
                                        with_reducible rfl
                                      rotate_left
                                      · simp only [Act.put, List.setIfInBounds_toArray, List.set_cons_zero, List.set_cons_succ, i64_w, i32_w]
                                        rfl
                                      refine take_ (i := 1) (N := some 4) (v := ?_) (a' := ?_) #[true, true, false, true, false, false, false] rfl rfl (by kernel_rfl) (fun _ _ _ h => h) (Or.inl ⟨by rfl, ?_⟩) hHeld ?_ ?_
                                      rotate_left
                                      · rintro w' ⟨s0, s1, s2, s3, s4⟩
                                        go_simp
                                        with_reducible rfl
                                      rotate_left
                                      · simp only [Act.put, List.setIfInBounds_toArray, List.set_cons_zero, List.set_cons_succ, i64_w, i32_w]
                                        rfl
                                      refine pure_ (i := 2) (N := some 5) (v := ?_) (a' := ?_) #[true, true, true, true, false, false, false] rfl rfl (by kernel_rfl) (fun _ _ _ h => h) (Or.inl ⟨by rfl, ?_⟩) ?_ ?_
                                      rotate_left
                                      · intro w'
                                        go_simp
                                        with_reducible rfl
                                      rotate_left
                                      · simp only [Act.put, List.setIfInBounds_toArray, List.set_cons_zero, List.set_cons_succ, i64_w, i32_w]
                                        rfl
                                      refine take_ (i := 4) (N := some 7) (v := ?_) (a' := ?_) #[true, true, true, true, true, false, false] rfl rfl (by kernel_rfl) (fun _ _ _ h => h) (Or.inl ⟨by rfl, ?_⟩) hHeld ?_ ?_
                                      rotate_left
                                      · rintro w' ⟨s0, s1, s2, s3, s4⟩
                                        go_simp
                                        with_reducible rfl
                                      rotate_left
                                      · simp only [Act.put, List.setIfInBounds_toArray, List.set_cons_zero, List.set_cons_succ, i64_w, i32_w]
                                        rfl
                                      refine one_ (i := 5) (N := some 8) #[true, true, true, true, true, true, false] rfl rfl (by kernel_rfl) (by decide) (fun K hK => ?_)
                                      refine goes_ Tryd.func23 (by kernel_rfl) rfl #[.int .i64 a0_0] (by rfl) rfl rfl (by (try simp only [List.map_toArray, List.map_cons, List.map_nil]); first | done | rfl | (simp only [List.length_drop, List.length_take]; rfl)) ?_
                                      with_reducible refine (show_few.calls k a0_0 t110 _ A2.out).mono ?_
                                      rintro e w' ⟨rfl, ⟨nd, rfl⟩⟩
                                      refine ⟨_, rfl, ?_⟩
                                      refine hK.out _ _ ⟨(blk_cell BK109.out 0).trans rfl, (blk_cell BK109.out 1).trans rfl, (blk_cell BK109.out 2).trans rfl, (blk_cell BK109.out 3).trans rfl, (blk_cell BK109.out 4).trans rfl⟩ (fun hHeld => ?_)
                                      clear hK K
                                      refine norm_ (a' := ?_) ?_ ?_
                                      rotate_left
                                      · show Act.put _ (some 8) _ = _
                                        simp only [Act.put, List.setIfInBounds_toArray, List.set_cons_zero, List.set_cons_succ, i64_w, i32_w]
                                        rfl
                                      refine pure_ (i := 6) (N := some 9) (v := ?_) (a' := ?_) #[true, true, true, true, true, true, true] rfl rfl (by kernel_rfl) (fun _ _ _ h => h) (Or.inl ⟨by rfl, ?_⟩) ?_ ?_
                                      rotate_left
                                      · intro w'
                                        go_simp
                                        with_reducible rfl
                                      rotate_left
                                      · simp only [Act.put, List.setIfInBounds_toArray, List.set_cons_zero, List.set_cons_succ, i64_w, i32_w]
                                        rfl
                                      refine done_ (by kernel_rfl) ?_
                                      have hcz87_0 : w86.cell? ⟨gb109, 0, none⟩ = some (.int .i64 a0_0) := (blk_cell BK109.out 0).trans rfl
                                      have hcz87_1 : w86.cell? ⟨gb109, 1, none⟩ = some (.int .i64 a0_1) := (blk_cell BK109.out 1).trans rfl
                                      have hcz87_2 : w86.cell? ⟨gb109, 2, none⟩ = some (.int .i64 a0_2) := (blk_cell BK109.out 2).trans rfl
                                      have hcz87_3 : w86.cell? ⟨gb109, 3, none⟩ = some (.string a0_3) := (blk_cell BK109.out 3).trans rfl
                                      have hcz87_4 : w86.cell? ⟨gb109, 4, none⟩ = some (.slice A0_4 l0_4.length c0_4) := (blk_cell BK109.out 4).trans rfl
                                      have hfz87_0 := blk_frozen BK109.out 0
                                      have hfz87_1 := blk_frozen BK109.out 1
                                      have hfz87_2 := blk_frozen BK109.out 2
                                      have hfz87_3 := blk_frozen BK109.out 3
                                      have hfz87_4 := blk_frozen BK109.out 4
                                      try go_wp2
                                      (try (rw [drewN_self w86]; generalize hq_ : World.drewN w86 _ = w86; have n0_ : Aside0 (w86.heap[gb109]? = some (.cells #[.int .i64 a0_0, .int .i64 a0_1, .int .i64 a0_2, .string a0_3, .slice A0_4 l0_4.length c0_4] 26 (0, 0))) := ⟨by rw [← hq_]; exact (by (with_reducible repeat (first | refine blk_drewN ?_ _ | refine blk_drew ?_ | refine blk_alloc ?_ _)); exact BK109.out)⟩; have n1_ : Aside0 (Below w.heap.size w w86) := ⟨by rw [← hq_]; exact (by repeat (first | (with_reducible first | exact HB.out | apply below_alloc | apply pw_below_drewN | apply below_drew1 | refine below_set ?_ GE109.out) | exact HB.out))⟩; clear BK109 HB hq_; have BK109 := n0_; have HB := n1_; clear n0_ n1_))
                                      have n0_ := Aside0.mk (blk_drew BK109.out)
                                      have n1_ := Aside0.mk (below_drew1 HB.out)
                                      clear BK109
                                      clear HB
                                      have BK109 := n0_
                                      have HB := n1_
                                      clear n0_ n1_
                                      have p128 : 0 ≤ (0 : Int) := (by omega)
                                      have q128 : 0 < (l0_4.length : Int) := of_decide_eq_true (by first | (with_reducible assumption) | assumption)
                                      obtain ⟨ad128, A128_4, c128_4, e128, hx128_0, hx128_1, hx128_2, hx128_3, hx128_4, hl128_4, hi128_4⟩ := at_T26 HR0_4.out 0 p128 q128
                                      have hw128_4 := hx128_4
                                      (try rw [show ((0 : Int)).toNat = 0 from rfl] at hw128_4)
                                      (try rw [show 0 * 5 = 0 from rfl] at hw128_4)
                                      (try rw [Addr.add_zero'] at hw128_4)
                                      have hw128_3 := hx128_3
                                      (try rw [show ((0 : Int)).toNat = 0 from rfl] at hw128_3)
                                      (try rw [show 0 * 5 = 0 from rfl] at hw128_3)
                                      (try rw [Addr.add_zero'] at hw128_3)
                                      have hw128_2 := hx128_2
                                      (try rw [show ((0 : Int)).toNat = 0 from rfl] at hw128_2)
                                      (try rw [show 0 * 5 = 0 from rfl] at hw128_2)
                                      (try rw [Addr.add_zero'] at hw128_2)
                                      have hw128_1 := hx128_1
                                      (try rw [show ((0 : Int)).toNat = 0 from rfl] at hw128_1)
                                      (try rw [show 0 * 5 = 0 from rfl] at hw128_1)
                                      (try rw [Addr.add_zero'] at hw128_1)
                                      have hw128_0 := hx128_0
                                      (try rw [show ((0 : Int)).toNat = 0 from rfl] at hw128_0)
                                      (try rw [show 0 * 5 = 0 from rfl] at hw128_0)
                                      (try rw [Addr.add_zero'] at hw128_0)
                                      cases e128
                                      have qi128 : (0 < l0_4.length) = True := eq_true (by omega)
                                      (try rw [show ((0 : Int)).toNat = 0 from rfl] at hx128_0)
                                      (try rw [show 0 * 5 = 0 from rfl] at hx128_0)
                                      (try rw [Addr.add_zero'] at hx128_0)
                                      (try rw [show ((0 : Int)).toNat = 0 from rfl] at hx128_1)
                                      (try rw [show 0 * 5 = 0 from rfl] at hx128_1)
                                      (try rw [Addr.add_zero'] at hx128_1)
                                      (try rw [show ((0 : Int)).toNat = 0 from rfl] at hx128_2)
                                      (try rw [show 0 * 5 = 0 from rfl] at hx128_2)
                                      (try rw [Addr.add_zero'] at hx128_2)
                                      (try rw [show ((0 : Int)).toNat = 0 from rfl] at hx128_3)
                                      (try rw [show 0 * 5 = 0 from rfl] at hx128_3)
                                      (try rw [Addr.add_zero'] at hx128_3)
                                      (try rw [show ((0 : Int)).toNat = 0 from rfl] at hx128_4)
                                      (try rw [show 0 * 5 = 0 from rfl] at hx128_4)
                                      (try rw [Addr.add_zero'] at hx128_4)
                                      replace hx128_0 := (HB.out.cell (World.block_lt_of_cell? w _ hx128_0)).trans hx128_0
                                      replace hx128_1 := (HB.out.cell (World.block_lt_of_cell? w _ hx128_1)).trans hx128_1
                                      replace hx128_2 := (HB.out.cell (World.block_lt_of_cell? w _ hx128_2)).trans hx128_2
                                      replace hx128_3 := (HB.out.cell (World.block_lt_of_cell? w _ hx128_3)).trans hx128_3
                                      replace hx128_4 := (HB.out.cell (World.block_lt_of_cell? w _ hx128_4)).trans hx128_4
                                      have HR128_4 := Aside0.mk hi128_4
                                      have HC128_4 := Aside0.mk hl128_4
                                      clear hi128_4 hl128_4
                                      replace p128 := eq_true p128
                                      replace q128 := eq_true q128
                                      have p130 : 0 ≤ (1 : Int) := (by omega)
                                      have q130 : 1 < (l0_4.length : Int) := of_decide_eq_true (by first | (with_reducible assumption) | assumption)
                                      obtain ⟨ad130, A130_4, c130_4, e130, hx130_0, hx130_1, hx130_2, hx130_3, hx130_4, hl130_4, hi130_4⟩ := at_T26 HR0_4.out 1 p130 q130
                                      have hw130_4 := hx130_4
                                      (try rw [show ((1 : Int)).toNat = 1 from rfl] at hw130_4)
                                      (try rw [show 1 * 5 = 5 from rfl] at hw130_4)
                                      (try simp only [Nat.reduceMul, Nat.reduceEqDiff, Go.Addr.add, ↓reduceIte] at hw130_4)
                                      have hw130_3 := hx130_3
                                      (try rw [show ((1 : Int)).toNat = 1 from rfl] at hw130_3)
                                      (try rw [show 1 * 5 = 5 from rfl] at hw130_3)
                                      (try simp only [Nat.reduceMul, Nat.reduceEqDiff, Go.Addr.add, ↓reduceIte] at hw130_3)
                                      have hw130_2 := hx130_2
                                      (try rw [show ((1 : Int)).toNat = 1 from rfl] at hw130_2)
                                      (try rw [show 1 * 5 = 5 from rfl] at hw130_2)
                                      (try simp only [Nat.reduceMul, Nat.reduceEqDiff, Go.Addr.add, ↓reduceIte] at hw130_2)
                                      have hw130_1 := hx130_1
                                      (try rw [show ((1 : Int)).toNat = 1 from rfl] at hw130_1)
                                      (try rw [show 1 * 5 = 5 from rfl] at hw130_1)
                                      (try simp only [Nat.reduceMul, Nat.reduceEqDiff, Go.Addr.add, ↓reduceIte] at hw130_1)
                                      have hw130_0 := hx130_0
                                      (try rw [show ((1 : Int)).toNat = 1 from rfl] at hw130_0)
                                      (try rw [show 1 * 5 = 5 from rfl] at hw130_0)
                                      (try simp only [Nat.reduceMul, Nat.reduceEqDiff, Go.Addr.add, ↓reduceIte] at hw130_0)
                                      obtain rfl : ad128 = ad130 := (by injection e130)
                                      (try simp only [show (1 : Int).toNat = 1 from rfl, Nat.reduceMul, Nat.reduceEqDiff, Go.Addr.add, ↓reduceIte] at hx130_0)
                                      (try simp only [show (1 : Int).toNat = 1 from rfl, Nat.reduceMul, Nat.reduceEqDiff, Go.Addr.add, ↓reduceIte] at hx130_1)
                                      (try simp only [show (1 : Int).toNat = 1 from rfl, Nat.reduceMul, Nat.reduceEqDiff, Go.Addr.add, ↓reduceIte] at hx130_2)
                                      (try simp only [show (1 : Int).toNat = 1 from rfl, Nat.reduceMul, Nat.reduceEqDiff, Go.Addr.add, ↓reduceIte] at hx130_3)
                                      (try simp only [show (1 : Int).toNat = 1 from rfl, Nat.reduceMul, Nat.reduceEqDiff, Go.Addr.add, ↓reduceIte] at hx130_4)
                                      have qi130 : (1 < l0_4.length) = True := eq_true (by omega)
                                      (try rw [show ((1 : Int)).toNat = 1 from rfl] at hx130_0)
                                      (try rw [show 1 * 5 = 5 from rfl] at hx130_0)
                                      (try rw [show ((1 : Int)).toNat = 1 from rfl] at hx130_1)
                                      (try rw [show 1 * 5 = 5 from rfl] at hx130_1)
                                      (try rw [show ((1 : Int)).toNat = 1 from rfl] at hx130_2)
                                      (try rw [show 1 * 5 = 5 from rfl] at hx130_2)
                                      (try rw [show ((1 : Int)).toNat = 1 from rfl] at hx130_3)
                                      (try rw [show 1 * 5 = 5 from rfl] at hx130_3)
                                      (try rw [show ((1 : Int)).toNat = 1 from rfl] at hx130_4)
                                      (try rw [show 1 * 5 = 5 from rfl] at hx130_4)
                                      replace hx130_0 := (HB.out.cell (World.block_lt_of_cell? w _ hx130_0)).trans hx130_0
                                      replace hx130_1 := (HB.out.cell (World.block_lt_of_cell? w _ hx130_1)).trans hx130_1
                                      replace hx130_2 := (HB.out.cell (World.block_lt_of_cell? w _ hx130_2)).trans hx130_2
                                      replace hx130_3 := (HB.out.cell (World.block_lt_of_cell? w _ hx130_3)).trans hx130_3
                                      replace hx130_4 := (HB.out.cell (World.block_lt_of_cell? w _ hx130_4)).trans hx130_4
                                      have HR130_4 := Aside0.mk hi130_4
                                      have HC130_4 := Aside0.mk hl130_4
                                      clear hi130_4 hl130_4
                                      replace p130 := eq_true p130
                                      replace q130 := eq_true q130
                                      refine start_ (n := 19) (S := fun w' => w'.cell? ⟨gb109, 0, none⟩ = some (.int .i64 a0_0) ∧ w'.cell? ⟨gb109, 1, none⟩ = some (.int .i64 a0_1) ∧ w'.cell? ⟨gb109, 2, none⟩ = some (.int .i64 a0_2) ∧ w'.cell? ⟨gb109, 3, none⟩ = some (.string a0_3) ∧ w'.cell? ⟨gb109, 4, none⟩ = some (.slice (some ad128) l0_4.length c0_4) ∧ w'.cell? ad128 = some (.int .i64 ((rd_T26 l0_4 0).f0)) ∧ w'.cell? ⟨ad128.block, ad128.off + 1, none⟩ = some (.int .i64 ((rd_T26 l0_4 0).f1)) ∧ w'.cell? ⟨ad128.block, ad128.off + 2, none⟩ = some (.int .i64 ((rd_T26 l0_4 0).f2)) ∧ w'.cell? ⟨ad128.block, ad128.off + 3, none⟩ = some (.string ((rd_T26 l0_4 0).f3)) ∧ w'.cell? ⟨ad128.block, ad128.off + 4, none⟩ = some (.slice A128_4 ((rd_T26 l0_4 0).f4).length c128_4) ∧ w'.cell? ⟨ad128.block, ad128.off + 5, none⟩ = some (.int .i64 ((rd_T26 l0_4 1).f0)) ∧ w'.cell? ⟨ad128.block, ad128.off + 5 + 1, none⟩ = some (.int .i64 ((rd_T26 l0_4 1).f1)) ∧ w'.cell? ⟨ad128.block, ad128.off + 5 + 2, none⟩ = some (.int .i64 ((rd_T26 l0_4 1).f2)) ∧ w'.cell? ⟨ad128.block, ad128.off + 5 + 3, none⟩ = some (.string ((rd_T26 l0_4 1).f3)) ∧ w'.cell? ⟨ad128.block, ad128.off + 5 + 4, none⟩ = some (.slice A130_4 ((rd_T26 l0_4 1).f4).length c130_4)) (ds := []) #[false, false, false, false, false, false, false, false, false, false, false, false, false, false, false, false, false, false, false] (by kernel_rfl) rfl rfl ⟨(blk_cell BK109.out 0).trans rfl, (blk_cell BK109.out 1).trans rfl, (blk_cell BK109.out 2).trans rfl, (blk_cell BK109.out 3).trans rfl, (blk_cell BK109.out 4).trans rfl, ((HB.out.cell (World.block_lt_of_cell? w _ hw128_0)).trans hw128_0), ((HB.out.cell (World.block_lt_of_cell? w _ hw128_1)).trans hw128_1), ((HB.out.cell (World.block_lt_of_cell? w _ hw128_2)).trans hw128_2), ((HB.out.cell (World.block_lt_of_cell? w _ hw128_3)).trans hw128_3), ((HB.out.cell (World.block_lt_of_cell? w _ hw128_4)).trans hw128_4), ((HB.out.cell (World.block_lt_of_cell? w _ hw130_0)).trans hw130_0), ((HB.out.cell (World.block_lt_of_cell? w _ hw130_1)).trans hw130_1), ((HB.out.cell (World.block_lt_of_cell? w _ hw130_2)).trans hw130_2), ((HB.out.cell (World.block_lt_of_cell? w _ hw130_3)).trans hw130_3), ((HB.out.cell (World.block_lt_of_cell? w _ hw130_4)).trans hw130_4)⟩ (fun hHeld => ?_); refine with_tabW show_Expr.tab21 show_Expr.bits21 (fun HT_ HW_ => ?_)
                                      generalize w86.drew = w88 at BK109 HB HR128_4 HR130_4 hx128_0 hx128_1 hx128_2 hx128_3 hx128_4 hx130_0 hx130_1 hx130_2 hx130_3 hx130_4 hHeld ⊢
                                      refine pure_ (i := 0) (N := some 89) (v := ?_) (a' := ?_) #[true, false, false, false, false, false, false, false, false, false, false, false, false, false, false, false, false, false, false] rfl rfl (any_of HT_.out (by kernel_rfl)) (fun _ _ _ h => h) (Or.inl ⟨by rfl, ?_⟩) ?_ ?_
                                      rotate_left
                                      · intro w'
                                        go_simp
                                        with_reducible rfl
                                      rotate_left
                                      · simp only [Act.put, List.setIfInBounds_toArray, List.set_cons_zero, List.set_cons_succ, i64_w, i32_w]
                                        rfl
                                      refine pure_ (i := 4) (N := some 93) (v := ?_) (a' := ?_) #[true, false, false, false, true, false, false, false, false, false, false, false, false, false, false, false, false, false, false] rfl rfl (any_of HT_.out (by kernel_rfl)) (fun _ _ _ h => h) (Or.inl ⟨by rfl, ?_⟩) ?_ ?_
                                      rotate_left
                                      · intro w'
                                        go_simp
                                        with_reducible rfl
                                      rotate_left
                                      · simp only [Act.put, List.setIfInBounds_toArray, List.set_cons_zero, List.set_cons_succ, i64_w, i32_w]
                                        rfl
                                      refine pure_ (i := 11) (N := some 100) (v := ?_) (a' := ?_) #[true, false, false, false, true, false, false, false, false, false, false, true, false, false, false, false, false, false, false] rfl rfl (any_of HT_.out (by kernel_rfl)) (fun _ _ _ h => h) (Or.inl ⟨by rfl, ?_⟩) ?_ ?_
                                      rotate_left
                                      · intro w'
                                        go_simp
                                        with_reducible rfl
                                      rotate_left
                                      · simp only [Act.put, List.setIfInBounds_toArray, List.set_cons_zero, List.set_cons_succ, i64_w, i32_w]
                                        rfl
                                      refine take_ (i := 1) (N := some 90) (v := ?_) (a' := ?_) #[true, true, false, false, true, false, false, false, false, false, false, true, false, false, false, false, false, false, false] rfl rfl (take_ofW HT_.out HW_.out (by kernel_rfl)) (fun _ _ _ h => h) (Or.inl ⟨by rfl, ?_⟩) hHeld ?_ ?_
                                      rotate_left
                                      · rintro w' ⟨s0, s1, s2, s3, s4, s5, s6, s7, s8, s9, s10, s11, s12, s13, s14⟩
                                        go_simp
                                        with_reducible rfl
                                      rotate_left
                                      · simp only [Act.put, List.setIfInBounds_toArray, List.set_cons_zero, List.set_cons_succ, i64_w, i32_w]
                                        rfl
                                      refine pure_ (i := 2) (N := some 91) (v := ?_) (a' := ?_) #[true, true, true, false, true, false, false, false, false, false, false, true, false, false, false, false, false, false, false] rfl rfl (any_of HT_.out (by kernel_rfl)) (fun _ _ _ h => h) (Or.inl ⟨by rfl, ?_⟩) ?_ ?_
                                      rotate_left
                                      · intro w'
                                        go_simp
                                        with_reducible rfl
                                      rotate_left
                                      · simp only [Act.put, List.setIfInBounds_toArray, List.set_cons_zero, List.set_cons_succ, i64_w, i32_w]
                                        rfl
                                      refine pure_ (i := 3) (N := some 92) (v := ?_) (a' := ?_) #[true, true, true, true, true, false, false, false, false, false, false, true, false, false, false, false, false, false, false] rfl rfl (any_of HT_.out (by kernel_rfl)) (fun _ _ _ h => h) (Or.inl ⟨by rfl, ?_⟩) ?_ ?_
                                      rotate_left
                                      · intro w'
                                        go_simp
                                        with_reducible rfl
                                      rotate_left
                                      · simp only [Act.put, List.setIfInBounds_toArray, List.set_cons_zero, List.set_cons_succ, i64_w, i32_w]
                                        rfl
                                      refine take_ (i := 5) (N := some 94) (v := ?_) (a' := ?_) #[true, true, true, true, true, true, false, false, false, false, false, true, false, false, false, false, false, false, false] rfl rfl (take_ofW HT_.out HW_.out (by kernel_rfl)) (fun _ _ _ h => h) (Or.inl ⟨by rfl, ?_⟩) hHeld ?_ ?_
                                      rotate_left
                                      · rintro w' ⟨s0, s1, s2, s3, s4, s5, s6, s7, s8, s9, s10, s11, s12, s13, s14⟩
                                        go_simp
                                        with_reducible rfl
                                      rotate_left
                                      · simp only [Act.put, List.setIfInBounds_toArray, List.set_cons_zero, List.set_cons_succ, i64_w, i32_w]
                                        rfl
                                      refine pure_ (i := 6) (N := some 95) (v := ?_) (a' := ?_) #[true, true, true, true, true, true, true, false, false, false, false, true, false, false, false, false, false, false, false] rfl rfl (any_of HT_.out (by kernel_rfl)) (fun _ _ _ h => h) (Or.inl ⟨by rfl, ?_⟩) ?_ ?_
                                      rotate_left
                                      · intro w'
                                        go_simp
                                        with_reducible rfl
                                      rotate_left
                                      · simp only [Act.put, List.setIfInBounds_toArray, List.set_cons_zero, List.set_cons_succ, i64_w, i32_w]
                                        rfl
                                      refine take_ (i := 7) (N := some 96) (v := ?_) (a' := ?_) #[true, true, true, true, true, true, true, true, false, false, false, true, false, false, false, false, false, false, false] rfl rfl (take_ofW HT_.out HW_.out (by kernel_rfl)) (fun _ _ _ h => h) (Or.inl ⟨by rfl, ?_⟩) hHeld ?_ ?_
                                      rotate_left
                                      · rintro w' ⟨s0, s1, s2, s3, s4, s5, s6, s7, s8, s9, s10, s11, s12, s13, s14⟩
                                        go_simp
                                        with_reducible rfl
                                      rotate_left
                                      · simp only [Act.put, List.setIfInBounds_toArray, List.set_cons_zero, List.set_cons_succ, i64_w, i32_w]
                                        rfl
                                      refine take_ (i := 12) (N := some 101) (v := ?_) (a' := ?_) #[true, true, true, true, true, true, true, true, false, false, false, true, true, false, false, false, false, false, false] rfl rfl (take_ofW HT_.out HW_.out (by kernel_rfl)) (fun _ _ _ h => h) (Or.inl ⟨by rfl, ?_⟩) hHeld ?_ ?_
                                      rotate_left
                                      · rintro w' ⟨s0, s1, s2, s3, s4, s5, s6, s7, s8, s9, s10, s11, s12, s13, s14⟩
                                        go_simp
                                        with_reducible rfl
                                      rotate_left
                                      · simp only [Act.put, List.setIfInBounds_toArray, List.set_cons_zero, List.set_cons_succ, i64_w, i32_w]
                                        rfl
                                      refine pure_ (i := 13) (N := some 102) (v := ?_) (a' := ?_) #[true, true, true, true, true, true, true, true, false, false, false, true, true, true, false, false, false, false, false] rfl rfl (any_of HT_.out (by kernel_rfl)) (fun _ _ _ h => h) (Or.inl ⟨by rfl, ?_⟩) ?_ ?_
                                      rotate_left
                                      · intro w'
                                        go_simp
                                        with_reducible rfl
                                      rotate_left
                                      · simp only [Act.put, List.setIfInBounds_toArray, List.set_cons_zero, List.set_cons_succ, i64_w, i32_w]
                                        rfl
                                      refine take_ (i := 14) (N := some 103) (v := ?_) (a' := ?_) #[true, true, true, true, true, true, true, true, false, false, false, true, true, true, true, false, false, false, false] rfl rfl (take_ofW HT_.out HW_.out (by kernel_rfl)) (fun _ _ _ h => h) (Or.inl ⟨by rfl, ?_⟩) hHeld ?_ ?_
                                      rotate_left
                                      · rintro w' ⟨s0, s1, s2, s3, s4, s5, s6, s7, s8, s9, s10, s11, s12, s13, s14⟩
                                        go_simp
                                        with_reducible rfl
                                      rotate_left
                                      · simp only [Act.put, List.setIfInBounds_toArray, List.set_cons_zero, List.set_cons_succ, i64_w, i32_w]
                                        rfl
                                      refine one_ (i := 8) (N := some 97) #[true, true, true, true, true, true, true, true, true, false, false, true, true, true, true, false, false, false, false] rfl rfl (one_of HT_.out (by kernel_rfl)) (by decide) (fun K hK => ?_)
                                      refine goes_ Tryd.func9 (by kernel_rfl) rfl #[.agg #[.int .i64 ((rd_T26 l0_4 0).f0), .int .i64 ((rd_T26 l0_4 0).f1), .int .i64 ((rd_T26 l0_4 0).f2), .string ((rd_T26 l0_4 0).f3), .slice A128_4 ((rd_T26 l0_4 0).f4).length c128_4]] (by rfl) rfl rfl (by (try simp only [List.map_toArray, List.map_cons, List.map_nil]); first | done | rfl | (simp only [List.length_drop, List.length_take]; rfl)) ?_
                                      with_reducible refine (ih k (by omega) ((rd_T26 l0_4 0).f0) ((rd_T26 l0_4 0).f1) ((rd_T26 l0_4 0).f2) ((rd_T26 l0_4 0).f3) _ _ ((rd_T26 l0_4 0).f4) t129 _ ?side1 ?side2 ?side3 A78.out).mono ?_
                                      (case side1 => repeat (first | exact (Kd.C_below HR128_4.out HB.out) | (with_reducible refine Kd.C_alloc ?_ _) | (with_reducible refine Kd.C_drewN ?_ _) | (with_reducible refine Kd.C_drew ?_)))
                                      (case side2 => exact HC128_4.out)
                                      (case side3 => exact GlobW.below HG.out (by repeat (first | (with_reducible first | exact HB.out | apply below_alloc | apply pw_below_drewN | apply below_drew1 | refine below_set ?_ GE109.out) | exact HB.out)))
                                      rintro e w89 ⟨rfl, hb⟩
                                      refine ⟨_, rfl, ?_⟩
                                      have n0_ := Aside0.mk (blk_below (g := gb109) (o := .cells #[.int .i64 a0_0, .int .i64 a0_1, .int .i64 a0_2, .string a0_3, .slice (some ad128) l0_4.length c0_4] 26 (0, 0)) (by (with_reducible repeat (first | refine blk_drewN ?_ _ | refine blk_drew ?_ | refine blk_alloc ?_ _)); exact BK109.out) hb)
                                      have n1_ := Aside0.mk (below_step (by repeat (first | (with_reducible first | exact HB.out | apply below_alloc | apply pw_below_drewN | apply below_drew1 | refine below_set ?_ GE109.out) | exact HB.out)) hb)
                                      clear BK109
                                      clear HB
                                      have BK109 := n0_
                                      have HB := n1_
                                      clear n0_ n1_
                                      (try clear hb)
                                      (try clear hb2)
                                      (try clear hk)
                                      (try clear hi)
                                      refine hK.out _ _ ⟨(blk_cell BK109.out 0).trans rfl, (blk_cell BK109.out 1).trans rfl, (blk_cell BK109.out 2).trans rfl, (blk_cell BK109.out 3).trans rfl, (blk_cell BK109.out 4).trans rfl, ((HB.out.cell (World.block_lt_of_cell? w _ hw128_0)).trans hw128_0), ((HB.out.cell (World.block_lt_of_cell? w _ hw128_1)).trans hw128_1), ((HB.out.cell (World.block_lt_of_cell? w _ hw128_2)).trans hw128_2), ((HB.out.cell (World.block_lt_of_cell? w _ hw128_3)).trans hw128_3), ((HB.out.cell (World.block_lt_of_cell? w _ hw128_4)).trans hw128_4), ((HB.out.cell (World.block_lt_of_cell? w _ hw130_0)).trans hw130_0), ((HB.out.cell (World.block_lt_of_cell? w _ hw130_1)).trans hw130_1), ((HB.out.cell (World.block_lt_of_cell? w _ hw130_2)).trans hw130_2), ((HB.out.cell (World.block_lt_of_cell? w _ hw130_3)).trans hw130_3), ((HB.out.cell (World.block_lt_of_cell? w _ hw130_4)).trans hw130_4)⟩ (fun hHeld => ?_)
                                      clear hK K
                                      refine norm_ (a' := ?_) ?_ ?_
                                      rotate_left
                                      · show Act.put _ (some 97) _ = _
                                        simp only [Act.put, List.setIfInBounds_toArray, List.set_cons_zero, List.set_cons_succ, i64_w, i32_w]
                                        rfl
                                      refine pure_ (i := 9) (N := some 98) (v := ?_) (a' := ?_) #[true, true, true, true, true, true, true, true, true, true, false, true, true, true, true, false, false, false, false] rfl rfl (any_of HT_.out (by kernel_rfl)) (fun _ _ _ h => h) (Or.inl ⟨by rfl, ?_⟩) ?_ ?_
                                      rotate_left
                                      · intro w'
                                        go_simp
                                        with_reducible rfl
                                      rotate_left
                                      · simp only [Act.put, List.setIfInBounds_toArray, List.set_cons_zero, List.set_cons_succ, i64_w, i32_w]
                                        rfl
                                      refine pure_ (i := 10) (N := some 99) (v := ?_) (a' := ?_) #[true, true, true, true, true, true, true, true, true, true, true, true, true, true, true, false, false, false, false] rfl rfl (any_of HT_.out (by kernel_rfl)) (fun _ _ _ h => h) (Or.inl ⟨by rfl, ?_⟩) ?_ ?_
                                      rotate_left
                                      · intro w'
                                        go_simp
                                        with_reducible rfl
                                      rotate_left
                                      · simp only [Act.put, List.setIfInBounds_toArray, List.set_cons_zero, List.set_cons_succ, i64_w, i32_w]
                                        rfl
                                      refine one_ (i := 15) (N := some 104) #[true, true, true, true, true, true, true, true, true, true, true, true, true, true, true, true, false, false, false] rfl rfl (one_of HT_.out (by kernel_rfl)) (by decide) (fun K hK => ?_)
                                      refine goes_ Tryd.func9 (by kernel_rfl) rfl #[.agg #[.int .i64 ((rd_T26 l0_4 1).f0), .int .i64 ((rd_T26 l0_4 1).f1), .int .i64 ((rd_T26 l0_4 1).f2), .string ((rd_T26 l0_4 1).f3), .slice A130_4 ((rd_T26 l0_4 1).f4).length c130_4]] (by rfl) rfl rfl (by (try simp only [List.map_toArray, List.map_cons, List.map_nil]); first | done | rfl | (simp only [List.length_drop, List.length_take]; rfl)) ?_
                                      with_reducible refine (ih k (by omega) ((rd_T26 l0_4 1).f0) ((rd_T26 l0_4 1).f1) ((rd_T26 l0_4 1).f2) ((rd_T26 l0_4 1).f3) _ _ ((rd_T26 l0_4 1).f4) t131 _ ?side1 ?side2 ?side3 A82.out).mono ?_
                                      (case side1 => repeat (first | exact (Kd.C_below HR130_4.out HB.out) | (with_reducible refine Kd.C_alloc ?_ _) | (with_reducible refine Kd.C_drewN ?_ _) | (with_reducible refine Kd.C_drew ?_)))
                                      (case side2 => exact HC130_4.out)
                                      (case side3 => exact GlobW.below HG.out (by repeat (first | (with_reducible first | exact HB.out | apply below_alloc | apply pw_below_drewN | apply below_drew1 | refine below_set ?_ GE109.out) | exact HB.out)))
                                      rintro e w90 ⟨rfl, hb⟩
                                      refine ⟨_, rfl, ?_⟩
                                      have n0_ := Aside0.mk (blk_below (g := gb109) (o := .cells #[.int .i64 a0_0, .int .i64 a0_1, .int .i64 a0_2, .string a0_3, .slice (some ad128) l0_4.length c0_4] 26 (0, 0)) (by (with_reducible repeat (first | refine blk_drewN ?_ _ | refine blk_drew ?_ | refine blk_alloc ?_ _)); exact BK109.out) hb)
                                      have n1_ := Aside0.mk (below_step (by repeat (first | (with_reducible first | exact HB.out | apply below_alloc | apply pw_below_drewN | apply below_drew1 | refine below_set ?_ GE109.out) | exact HB.out)) hb)
                                      clear BK109
                                      clear HB
                                      have BK109 := n0_
                                      have HB := n1_
                                      clear n0_ n1_
                                      (try clear hb)
                                      (try clear hb2)
                                      (try clear hk)
                                      (try clear hi)
                                      refine hK.out _ _ ⟨(blk_cell BK109.out 0).trans rfl, (blk_cell BK109.out 1).trans rfl, (blk_cell BK109.out 2).trans rfl, (blk_cell BK109.out 3).trans rfl, (blk_cell BK109.out 4).trans rfl, ((HB.out.cell (World.block_lt_of_cell? w _ hw128_0)).trans hw128_0), ((HB.out.cell (World.block_lt_of_cell? w _ hw128_1)).trans hw128_1), ((HB.out.cell (World.block_lt_of_cell? w _ hw128_2)).trans hw128_2), ((HB.out.cell (World.block_lt_of_cell? w _ hw128_3)).trans hw128_3), ((HB.out.cell (World.block_lt_of_cell? w _ hw128_4)).trans hw128_4), ((HB.out.cell (World.block_lt_of_cell? w _ hw130_0)).trans hw130_0), ((HB.out.cell (World.block_lt_of_cell? w _ hw130_1)).trans hw130_1), ((HB.out.cell (World.block_lt_of_cell? w _ hw130_2)).trans hw130_2), ((HB.out.cell (World.block_lt_of_cell? w _ hw130_3)).trans hw130_3), ((HB.out.cell (World.block_lt_of_cell? w _ hw130_4)).trans hw130_4)⟩ (fun hHeld => ?_)
                                      clear hK K
                                      refine norm_ (a' := ?_) ?_ ?_
                                      rotate_left
                                      · show Act.put _ (some 104) _ = _
                                        simp only [Act.put, List.setIfInBounds_toArray, List.set_cons_zero, List.set_cons_succ, i64_w, i32_w]
                                        rfl
                                      refine pure_ (i := 16) (N := some 105) (v := ?_) (a' := ?_) #[true, true, true, true, true, true, true, true, true, true, true, true, true, true, true, true, true, false, false] rfl rfl (any_of HT_.out (by kernel_rfl)) (fun _ _ _ h => h) (Or.inl ⟨by rfl, ?_⟩) ?_ ?_
                                      rotate_left
                                      · intro w'
                                        go_simp
                                        with_reducible rfl
                                      rotate_left
                                      · simp only [Act.put, List.setIfInBounds_toArray, List.set_cons_zero, List.set_cons_succ, i64_w, i32_w]
                                        rfl
                                      refine pure_ (i := 17) (N := some 106) (v := ?_) (a' := ?_) #[true, true, true, true, true, true, true, true, true, true, true, true, true, true, true, true, true, true, false] rfl rfl (any_of HT_.out (by kernel_rfl)) (fun _ _ _ h => h) (Or.inl ⟨by rfl, ?_⟩) ?_ ?_
                                      rotate_left
                                      · intro w'
                                        go_simp
                                        with_reducible rfl
                                      rotate_left
                                      · simp only [Act.put, List.setIfInBounds_toArray, List.set_cons_zero, List.set_cons_succ, i64_w, i32_w]
                                        rfl
                                      refine pure_ (i := 18) (N := some 2) (v := ?_) (a' := ?_) #[true, true, true, true, true, true, true, true, true, true, true, true, true, true, true, true, true, true, true] rfl rfl (any_of HT_.out (by kernel_rfl)) (fun _ _ _ h => h) (Or.inl ⟨by rfl, ?_⟩) ?_ ?_
                                      rotate_left
                                      · intro w'
                                        go_simp
                                        with_reducible rfl
                                      rotate_left
                                      · simp only [Act.put, List.setIfInBounds_toArray, List.set_cons_zero, List.set_cons_succ, i64_w, i32_w]
                                        rfl
                                      refine done_ (done_of HT_.out (by kernel_rfl)) ?_
                                      try go_wp2
                                      go_ret
                                      exact ⟨by first | rfl | (simp [errW_none, errW_some] <;> rfl) | (simp [*, errW_none, errW_some] <;> rfl), by repeat (first | (with_reducible first | exact HB.out | apply below_alloc | apply pw_below_drewN | apply below_drew1 | refine below_set ?_ GE109.out) | exact HB.out)⟩
                                    · rw [if_neg c84] at H
                                      exact absurd H (by simp)
                                  · rw [if_neg c83] at H
                                    exact absurd H (by simp)
                                · rw [if_neg c81] at H
                                  exact absurd H (by simp)
                              · rw [if_neg c80] at H
                                exact absurd H (by simp)
                            · rw [if_neg c79] at H
                              exact absurd H (by simp)
                          · rw [if_neg c77] at H
                            exact absurd H (by simp)
                        · rw [if_neg c76] at H
                          exact absurd H (by simp)
                      · rw [if_neg c75] at H
                        exact absurd H (by simp)
                    · rw [if_neg c74] at H
                      have c74b0 : (a0_0 == 25) = false := beq_eq_false_iff_ne.mpr c74
                      have c74b1 : (a0_0 != 25) = true := bne_iff_ne.mpr c74
                      by_cases c91 : 0 < (l0_4.length : Int)
                      · rw [if_pos c91] at H
                        have c91b0 : decide (0 < (l0_4.length : Int)) = true := decide_eq_true c91
                        have c91b1 : decide (0 < l0_4.length) = true := decide_eq_true (by omega)
                        clear c91
                        replace H := Option.bind_eq_some_iff.mp H
                        obtain ⟨t133, A920, H⟩ := H
                        replace H : (if t133.size + 1 ≤ 9223372036854775807 then ((show_Sign.f k a0_0).bind fun t134 => (if (t133 ++ (⟨#[32]⟩ : ByteArray)).size + t134.size ≤ 9223372036854775807 then (if ((t133 ++ (⟨#[32]⟩ : ByteArray)) ++ t134).size + 1 ≤ 9223372036854775807 then (if 1 < (l0_4.length : Int) then ((show_in.f (show_Expr.f k) k ((rd_T26 l0_4 1).f0) ((rd_T26 l0_4 1).f1) ((rd_T26 l0_4 1).f2) ((rd_T26 l0_4 1).f3) ((rd_T26 l0_4 1).f4)).bind fun t136 => (if (((t133 ++ (⟨#[32]⟩ : ByteArray)) ++ t134) ++ (⟨#[32]⟩ : ByteArray)).size + t136.size ≤ 9223372036854775807 then (some ((((t133 ++ (⟨#[32]⟩ : ByteArray)) ++ t134) ++ (⟨#[32]⟩ : ByteArray)) ++ t136)) else (none))) else (none)) else (none)) else (none))) else (none)) = some r := H
                        have A92 := Aside0.mk A920
                        clear A920
                        by_cases c93 : t133.size + 1 ≤ 9223372036854775807
                        · rw [if_pos c93] at H
                          have c93b0 := eq_true c93
                          have c93b1 : decide (t133.size + 1 ≤ 9223372036854775807) = true := decide_eq_true c93
                          try have c93b2 : (9223372036854775807 < t133.size + 1) = False := eq_false (Nat.not_lt.2 c93)
                          replace H := Option.bind_eq_some_iff.mp H
                          obtain ⟨t134, A940, H⟩ := H
                          replace H : (if (t133 ++ (⟨#[32]⟩ : ByteArray)).size + t134.size ≤ 9223372036854775807 then (if ((t133 ++ (⟨#[32]⟩ : ByteArray)) ++ t134).size + 1 ≤ 9223372036854775807 then (if 1 < (l0_4.length : Int) then ((show_in.f (show_Expr.f k) k ((rd_T26 l0_4 1).f0) ((rd_T26 l0_4 1).f1) ((rd_T26 l0_4 1).f2) ((rd_T26 l0_4 1).f3) ((rd_T26 l0_4 1).f4)).bind fun t136 => (if (((t133 ++ (⟨#[32]⟩ : ByteArray)) ++ t134) ++ (⟨#[32]⟩ : ByteArray)).size + t136.size ≤ 9223372036854775807 then (some ((((t133 ++ (⟨#[32]⟩ : ByteArray)) ++ t134) ++ (⟨#[32]⟩ : ByteArray)) ++ t136)) else (none))) else (none)) else (none)) else (none)) = some r := H
                          have A94 := Aside0.mk A940
                          clear A940
                          by_cases c95 : (t133 ++ (⟨#[32]⟩ : ByteArray)).size + t134.size ≤ 9223372036854775807
                          · rw [if_pos c95] at H
                            have c95b0 := eq_true c95
                            have c95b1 : decide ((t133 ++ (⟨#[32]⟩ : ByteArray)).size + t134.size ≤ 9223372036854775807) = true := decide_eq_true c95
                            try have c95b2 : (9223372036854775807 < (t133 ++ (⟨#[32]⟩ : ByteArray)).size + t134.size) = False := eq_false (Nat.not_lt.2 c95)
                            (try (have c95b4 := c95b2; simp only [ByteArray.size_append, show (⟨#[32]⟩ : ByteArray).size = 1 from rfl] at c95b4))
                            by_cases c96 : ((t133 ++ (⟨#[32]⟩ : ByteArray)) ++ t134).size + 1 ≤ 9223372036854775807
                            · rw [if_pos c96] at H
                              have c96b0 := eq_true c96
                              have c96b1 : decide (((t133 ++ (⟨#[32]⟩ : ByteArray)) ++ t134).size + 1 ≤ 9223372036854775807) = true := decide_eq_true c96
                              try have c96b2 : (9223372036854775807 < ((t133 ++ (⟨#[32]⟩ : ByteArray)) ++ t134).size + 1) = False := eq_false (Nat.not_lt.2 c96)
                              (try (have c96b4 := c96b2; simp only [ByteArray.size_append, show (⟨#[32]⟩ : ByteArray).size = 1 from rfl] at c96b4))
                              by_cases c97 : 1 < (l0_4.length : Int)
                              · rw [if_pos c97] at H
                                have c97b0 : decide (1 < (l0_4.length : Int)) = true := decide_eq_true c97
                                have c97b1 : decide (1 < l0_4.length) = true := decide_eq_true (by omega)
                                clear c97
                                replace H := Option.bind_eq_some_iff.mp H
                                obtain ⟨t136, A980, H⟩ := H
                                replace H : (if (((t133 ++ (⟨#[32]⟩ : ByteArray)) ++ t134) ++ (⟨#[32]⟩ : ByteArray)).size + t136.size ≤ 9223372036854775807 then (some ((((t133 ++ (⟨#[32]⟩ : ByteArray)) ++ t134) ++ (⟨#[32]⟩ : ByteArray)) ++ t136)) else (none)) = some r := H
                                have A98 := Aside0.mk A980
                                clear A980
                                by_cases c99 : (((t133 ++ (⟨#[32]⟩ : ByteArray)) ++ t134) ++ (⟨#[32]⟩ : ByteArray)).size + t136.size ≤ 9223372036854775807
                                · rw [if_pos c99] at H
                                  have c99b0 := eq_true c99
                                  have c99b1 : decide ((((t133 ++ (⟨#[32]⟩ : ByteArray)) ++ t134) ++ (⟨#[32]⟩ : ByteArray)).size + t136.size ≤ 9223372036854775807) = true := decide_eq_true c99
                                  try have c99b2 : (9223372036854775807 < (((t133 ++ (⟨#[32]⟩ : ByteArray)) ++ t134) ++ (⟨#[32]⟩ : ByteArray)).size + t136.size) = False := eq_false (Nat.not_lt.2 c99)
                                  (try (have c99b4 := c99b2; simp only [ByteArray.size_append, show (⟨#[32]⟩ : ByteArray).size = 1 from rfl] at c99b4))
                                  obtain rfl := Option.some.inj H
                                  simp only [Option.some.injEq, Prod.mk.injEq] at H
                                  obtain ⟨rfl⟩ := H
                                  go_enter Tryd.func9, Tryd.ntmps9
                                  try go_wp2_with (first | ((with_reducible refine gate_dst (N := 1) rfl ?_); refine box_event ?hg (N := 1) ?hd (cs := #[.int .i64 a0_0, .int .i64 a0_1, .int .i64 a0_2, .string a0_3, .slice A0_4 l0_4.length c0_4]) (t := 26) ?hr ?_; (case hd => rfl); (case hg => rfl); (case hr => first | (go_simp; done) | (go_simp; rfl)); intro gb109 hg w100 hbox hb; have n0_ := Aside0.mk (below_step (by repeat (first | (with_reducible first | exact HB.out | apply below_alloc | apply pw_below_drewN | apply below_drew1) | exact HB.out)) hb); have n1_ := Aside0.mk (hbox); have n2_ := Aside0.mk ((by rw [hg]; exact (below_size (by repeat (first | (with_reducible first | exact HB.out | apply below_alloc | apply pw_below_drewN | apply below_drew1) | exact HB.out))) : w.heap.size ≤ gb109)); have n3_ := Aside0.mk ((by rw [hg]; exact (below_size (by repeat (first | (with_reducible first | exact HB.out | apply below_alloc | apply pw_below_drewN | apply below_drew1) | exact HB.out))) : w.heap.size ≤ gb109)); clear HB; have HB := n0_; have BK109 := n1_; have GW109 := n2_; have GE109 := n3_; clear n0_ n1_ n2_ n3_; clear hb hbox hg))
                                  have n0_ := Aside0.mk (blk_drew BK109.out)
                                  have n1_ := Aside0.mk (below_drew1 HB.out)
                                  clear BK109
                                  clear HB
                                  have BK109 := n0_
                                  have HB := n1_
                                  clear n0_ n1_
                                  refine start_ (n := 7) (S := fun w' => w'.cell? ⟨gb109, 0, none⟩ = some (.int .i64 a0_0) ∧ w'.cell? ⟨gb109, 1, none⟩ = some (.int .i64 a0_1) ∧ w'.cell? ⟨gb109, 2, none⟩ = some (.int .i64 a0_2) ∧ w'.cell? ⟨gb109, 3, none⟩ = some (.string a0_3) ∧ w'.cell? ⟨gb109, 4, none⟩ = some (.slice A0_4 l0_4.length c0_4)) (ds := []) #[false, false, false, false, false, false, false] (by kernel_rfl) rfl rfl ⟨(blk_cell BK109.out 0).trans rfl, (blk_cell BK109.out 1).trans rfl, (blk_cell BK109.out 2).trans rfl, (blk_cell BK109.out 3).trans rfl, (blk_cell BK109.out 4).trans rfl⟩ (fun hHeld => ?_)
                                  generalize w100.drew = w101 at BK109 HB hHeld ⊢
                                  refine pure_ (i := 0) (N := some 3) (v := ?_) (a' := ?_) #[true, false, false, false, false, false, false] rfl rfl (by kernel_rfl) (fun _ _ _ h => h) (Or.inl ⟨by rfl, ?_⟩) ?_ ?_
                                  rotate_left
                                  · intro w'
                                    go_simp
                                    with_reducible rfl
                                  rotate_left
                                  · simp only [Act.put, List.setIfInBounds_toArray, List.set_cons_zero, List.set_cons_succ, i64_w, i32_w]
                                    rfl
                                  refine pure_ (i := 3) (N := some 6) (v := ?_) (a' := ?_) #[true, false, false, true, false, false, false] rfl rfl (by kernel_rfl) (fun _ _ _ h => h) (Or.inl ⟨by rfl, ?_⟩) ?_ ?_
                                  rotate_left
                                  · intro w'
                                    go_simp
                                    with_reducible rfl
                                  rotate_left
                                  · simp only [Act.put, List.setIfInBounds_toArray, List.set_cons_zero, List.set_cons_succ, i64_w, i32_w]
                                    rfl
                                  refine take_ (i := 1) (N := some 4) (v := ?_) (a' := ?_) #[true, true, false, true, false, false, false] rfl rfl (by kernel_rfl) (fun _ _ _ h => h) (Or.inl ⟨by rfl, ?_⟩) hHeld ?_ ?_
                                  rotate_left
                                  · rintro w' ⟨s0, s1, s2, s3, s4⟩
                                    go_simp
                                    with_reducible rfl
                                  rotate_left
                                  · simp only [Act.put, List.setIfInBounds_toArray, List.set_cons_zero, List.set_cons_succ, i64_w, i32_w]
                                    rfl
                                  refine pure_ (i := 2) (N := some 5) (v := ?_) (a' := ?_) #[true, true, true, true, false, false, false] rfl rfl (by kernel_rfl) (fun _ _ _ h => h) (Or.inl ⟨by rfl, ?_⟩) ?_ ?_
                                  rotate_left
                                  · intro w'
                                    go_simp
                                    with_reducible rfl
                                  rotate_left
                                  · simp only [Act.put, List.setIfInBounds_toArray, List.set_cons_zero, List.set_cons_succ, i64_w, i32_w]
                                    rfl
                                  refine take_ (i := 4) (N := some 7) (v := ?_) (a' := ?_) #[true, true, true, true, true, false, false] rfl rfl (by kernel_rfl) (fun _ _ _ h => h) (Or.inl ⟨by rfl, ?_⟩) hHeld ?_ ?_
                                  rotate_left
                                  · rintro w' ⟨s0, s1, s2, s3, s4⟩
                                    go_simp
                                    with_reducible rfl
                                  rotate_left
                                  · simp only [Act.put, List.setIfInBounds_toArray, List.set_cons_zero, List.set_cons_succ, i64_w, i32_w]
                                    rfl
                                  refine one_ (i := 5) (N := some 8) #[true, true, true, true, true, true, false] rfl rfl (by kernel_rfl) (by decide) (fun K hK => ?_)
                                  refine goes_ Tryd.func23 (by kernel_rfl) rfl #[.int .i64 a0_0] (by rfl) rfl rfl (by (try simp only [List.map_toArray, List.map_cons, List.map_nil]); first | done | rfl | (simp only [List.length_drop, List.length_take]; rfl)) ?_
                                  with_reducible refine (show_few.calls k a0_0 t110 _ A2.out).mono ?_
                                  rintro e w' ⟨rfl, ⟨nd, rfl⟩⟩
                                  refine ⟨_, rfl, ?_⟩
                                  refine hK.out _ _ ⟨(blk_cell BK109.out 0).trans rfl, (blk_cell BK109.out 1).trans rfl, (blk_cell BK109.out 2).trans rfl, (blk_cell BK109.out 3).trans rfl, (blk_cell BK109.out 4).trans rfl⟩ (fun hHeld => ?_)
                                  clear hK K
                                  refine norm_ (a' := ?_) ?_ ?_
                                  rotate_left
                                  · show Act.put _ (some 8) _ = _
                                    simp only [Act.put, List.setIfInBounds_toArray, List.set_cons_zero, List.set_cons_succ, i64_w, i32_w]
                                    rfl
                                  refine pure_ (i := 6) (N := some 9) (v := ?_) (a' := ?_) #[true, true, true, true, true, true, true] rfl rfl (by kernel_rfl) (fun _ _ _ h => h) (Or.inl ⟨by rfl, ?_⟩) ?_ ?_
                                  rotate_left
                                  · intro w'
                                    go_simp
                                    with_reducible rfl
                                  rotate_left
                                  · simp only [Act.put, List.setIfInBounds_toArray, List.set_cons_zero, List.set_cons_succ, i64_w, i32_w]
                                    rfl
                                  refine done_ (by kernel_rfl) ?_
                                  have hcz102_0 : w101.cell? ⟨gb109, 0, none⟩ = some (.int .i64 a0_0) := (blk_cell BK109.out 0).trans rfl
                                  have hcz102_1 : w101.cell? ⟨gb109, 1, none⟩ = some (.int .i64 a0_1) := (blk_cell BK109.out 1).trans rfl
                                  have hcz102_2 : w101.cell? ⟨gb109, 2, none⟩ = some (.int .i64 a0_2) := (blk_cell BK109.out 2).trans rfl
                                  have hcz102_3 : w101.cell? ⟨gb109, 3, none⟩ = some (.string a0_3) := (blk_cell BK109.out 3).trans rfl
                                  have hcz102_4 : w101.cell? ⟨gb109, 4, none⟩ = some (.slice A0_4 l0_4.length c0_4) := (blk_cell BK109.out 4).trans rfl
                                  have hfz102_0 := blk_frozen BK109.out 0
                                  have hfz102_1 := blk_frozen BK109.out 1
                                  have hfz102_2 := blk_frozen BK109.out 2
                                  have hfz102_3 := blk_frozen BK109.out 3
                                  have hfz102_4 := blk_frozen BK109.out 4
                                  try go_wp2
                                  (try (rw [drewN_self w101]; generalize hq_ : World.drewN w101 _ = w101; have n0_ : Aside0 (w101.heap[gb109]? = some (.cells #[.int .i64 a0_0, .int .i64 a0_1, .int .i64 a0_2, .string a0_3, .slice A0_4 l0_4.length c0_4] 26 (0, 0))) := ⟨by rw [← hq_]; exact (by (with_reducible repeat (first | refine blk_drewN ?_ _ | refine blk_drew ?_ | refine blk_alloc ?_ _)); exact BK109.out)⟩; have n1_ : Aside0 (Below w.heap.size w w101) := ⟨by rw [← hq_]; exact (by repeat (first | (with_reducible first | exact HB.out | apply below_alloc | apply pw_below_drewN | apply below_drew1 | refine below_set ?_ GE109.out) | exact HB.out))⟩; clear BK109 HB hq_; have BK109 := n0_; have HB := n1_; clear n0_ n1_))
                                  have n0_ := Aside0.mk (blk_drew BK109.out)
                                  have n1_ := Aside0.mk (below_drew1 HB.out)
                                  clear BK109
                                  clear HB
                                  have BK109 := n0_
                                  have HB := n1_
                                  clear n0_ n1_
                                  have p132 : 0 ≤ (0 : Int) := (by omega)
                                  have q132 : 0 < (l0_4.length : Int) := of_decide_eq_true (by first | (with_reducible assumption) | assumption)
                                  obtain ⟨ad132, A132_4, c132_4, e132, hx132_0, hx132_1, hx132_2, hx132_3, hx132_4, hl132_4, hi132_4⟩ := at_T26 HR0_4.out 0 p132 q132
                                  have hw132_4 := hx132_4
                                  (try rw [show ((0 : Int)).toNat = 0 from rfl] at hw132_4)
                                  (try rw [show 0 * 5 = 0 from rfl] at hw132_4)
                                  (try rw [Addr.add_zero'] at hw132_4)
                                  have hw132_3 := hx132_3
                                  (try rw [show ((0 : Int)).toNat = 0 from rfl] at hw132_3)
                                  (try rw [show 0 * 5 = 0 from rfl] at hw132_3)
                                  (try rw [Addr.add_zero'] at hw132_3)
                                  have hw132_2 := hx132_2
                                  (try rw [show ((0 : Int)).toNat = 0 from rfl] at hw132_2)
                                  (try rw [show 0 * 5 = 0 from rfl] at hw132_2)
                                  (try rw [Addr.add_zero'] at hw132_2)
                                  have hw132_1 := hx132_1
                                  (try rw [show ((0 : Int)).toNat = 0 from rfl] at hw132_1)
                                  (try rw [show 0 * 5 = 0 from rfl] at hw132_1)
                                  (try rw [Addr.add_zero'] at hw132_1)
                                  have hw132_0 := hx132_0
                                  (try rw [show ((0 : Int)).toNat = 0 from rfl] at hw132_0)
                                  (try rw [show 0 * 5 = 0 from rfl] at hw132_0)
                                  (try rw [Addr.add_zero'] at hw132_0)
                                  cases e132
                                  have qi132 : (0 < l0_4.length) = True := eq_true (by omega)
                                  (try rw [show ((0 : Int)).toNat = 0 from rfl] at hx132_0)
                                  (try rw [show 0 * 5 = 0 from rfl] at hx132_0)
                                  (try rw [Addr.add_zero'] at hx132_0)
                                  (try rw [show ((0 : Int)).toNat = 0 from rfl] at hx132_1)
                                  (try rw [show 0 * 5 = 0 from rfl] at hx132_1)
                                  (try rw [Addr.add_zero'] at hx132_1)
                                  (try rw [show ((0 : Int)).toNat = 0 from rfl] at hx132_2)
                                  (try rw [show 0 * 5 = 0 from rfl] at hx132_2)
                                  (try rw [Addr.add_zero'] at hx132_2)
                                  (try rw [show ((0 : Int)).toNat = 0 from rfl] at hx132_3)
                                  (try rw [show 0 * 5 = 0 from rfl] at hx132_3)
                                  (try rw [Addr.add_zero'] at hx132_3)
                                  (try rw [show ((0 : Int)).toNat = 0 from rfl] at hx132_4)
                                  (try rw [show 0 * 5 = 0 from rfl] at hx132_4)
                                  (try rw [Addr.add_zero'] at hx132_4)
                                  replace hx132_0 := (HB.out.cell (World.block_lt_of_cell? w _ hx132_0)).trans hx132_0
                                  replace hx132_1 := (HB.out.cell (World.block_lt_of_cell? w _ hx132_1)).trans hx132_1
                                  replace hx132_2 := (HB.out.cell (World.block_lt_of_cell? w _ hx132_2)).trans hx132_2
                                  replace hx132_3 := (HB.out.cell (World.block_lt_of_cell? w _ hx132_3)).trans hx132_3
                                  replace hx132_4 := (HB.out.cell (World.block_lt_of_cell? w _ hx132_4)).trans hx132_4
                                  have HR132_4 := Aside0.mk hi132_4
                                  have HC132_4 := Aside0.mk hl132_4
                                  clear hi132_4 hl132_4
                                  replace p132 := eq_true p132
                                  replace q132 := eq_true q132
                                  have p135 : 0 ≤ (1 : Int) := (by omega)
                                  have q135 : 1 < (l0_4.length : Int) := of_decide_eq_true (by first | (with_reducible assumption) | assumption)
                                  obtain ⟨ad135, A135_4, c135_4, e135, hx135_0, hx135_1, hx135_2, hx135_3, hx135_4, hl135_4, hi135_4⟩ := at_T26 HR0_4.out 1 p135 q135
                                  have hw135_4 := hx135_4
                                  (try rw [show ((1 : Int)).toNat = 1 from rfl] at hw135_4)
                                  (try rw [show 1 * 5 = 5 from rfl] at hw135_4)
                                  (try simp only [Nat.reduceMul, Nat.reduceEqDiff, Go.Addr.add, ↓reduceIte] at hw135_4)
                                  have hw135_3 := hx135_3
                                  (try rw [show ((1 : Int)).toNat = 1 from rfl] at hw135_3)
                                  (try rw [show 1 * 5 = 5 from rfl] at hw135_3)
                                  (try simp only [Nat.reduceMul, Nat.reduceEqDiff, Go.Addr.add, ↓reduceIte] at hw135_3)
                                  have hw135_2 := hx135_2
                                  (try rw [show ((1 : Int)).toNat = 1 from rfl] at hw135_2)
                                  (try rw [show 1 * 5 = 5 from rfl] at hw135_2)
                                  (try simp only [Nat.reduceMul, Nat.reduceEqDiff, Go.Addr.add, ↓reduceIte] at hw135_2)
                                  have hw135_1 := hx135_1
                                  (try rw [show ((1 : Int)).toNat = 1 from rfl] at hw135_1)
                                  (try rw [show 1 * 5 = 5 from rfl] at hw135_1)
                                  (try simp only [Nat.reduceMul, Nat.reduceEqDiff, Go.Addr.add, ↓reduceIte] at hw135_1)
                                  have hw135_0 := hx135_0
                                  (try rw [show ((1 : Int)).toNat = 1 from rfl] at hw135_0)
                                  (try rw [show 1 * 5 = 5 from rfl] at hw135_0)
                                  (try simp only [Nat.reduceMul, Nat.reduceEqDiff, Go.Addr.add, ↓reduceIte] at hw135_0)
                                  obtain rfl : ad132 = ad135 := (by injection e135)
                                  (try simp only [show (1 : Int).toNat = 1 from rfl, Nat.reduceMul, Nat.reduceEqDiff, Go.Addr.add, ↓reduceIte] at hx135_0)
                                  (try simp only [show (1 : Int).toNat = 1 from rfl, Nat.reduceMul, Nat.reduceEqDiff, Go.Addr.add, ↓reduceIte] at hx135_1)
                                  (try simp only [show (1 : Int).toNat = 1 from rfl, Nat.reduceMul, Nat.reduceEqDiff, Go.Addr.add, ↓reduceIte] at hx135_2)
                                  (try simp only [show (1 : Int).toNat = 1 from rfl, Nat.reduceMul, Nat.reduceEqDiff, Go.Addr.add, ↓reduceIte] at hx135_3)
                                  (try simp only [show (1 : Int).toNat = 1 from rfl, Nat.reduceMul, Nat.reduceEqDiff, Go.Addr.add, ↓reduceIte] at hx135_4)
                                  have qi135 : (1 < l0_4.length) = True := eq_true (by omega)
                                  (try rw [show ((1 : Int)).toNat = 1 from rfl] at hx135_0)
                                  (try rw [show 1 * 5 = 5 from rfl] at hx135_0)
                                  (try rw [show ((1 : Int)).toNat = 1 from rfl] at hx135_1)
                                  (try rw [show 1 * 5 = 5 from rfl] at hx135_1)
                                  (try rw [show ((1 : Int)).toNat = 1 from rfl] at hx135_2)
                                  (try rw [show 1 * 5 = 5 from rfl] at hx135_2)
                                  (try rw [show ((1 : Int)).toNat = 1 from rfl] at hx135_3)
                                  (try rw [show 1 * 5 = 5 from rfl] at hx135_3)
                                  (try rw [show ((1 : Int)).toNat = 1 from rfl] at hx135_4)
                                  (try rw [show 1 * 5 = 5 from rfl] at hx135_4)
                                  replace hx135_0 := (HB.out.cell (World.block_lt_of_cell? w _ hx135_0)).trans hx135_0
                                  replace hx135_1 := (HB.out.cell (World.block_lt_of_cell? w _ hx135_1)).trans hx135_1
                                  replace hx135_2 := (HB.out.cell (World.block_lt_of_cell? w _ hx135_2)).trans hx135_2
                                  replace hx135_3 := (HB.out.cell (World.block_lt_of_cell? w _ hx135_3)).trans hx135_3
                                  replace hx135_4 := (HB.out.cell (World.block_lt_of_cell? w _ hx135_4)).trans hx135_4
                                  have HR135_4 := Aside0.mk hi135_4
                                  have HC135_4 := Aside0.mk hl135_4
                                  clear hi135_4 hl135_4
                                  replace p135 := eq_true p135
                                  replace q135 := eq_true q135
                                  refine start_ (n := 18) (S := fun w' => w'.cell? ⟨gb109, 0, none⟩ = some (.int .i64 a0_0) ∧ w'.cell? ⟨gb109, 1, none⟩ = some (.int .i64 a0_1) ∧ w'.cell? ⟨gb109, 2, none⟩ = some (.int .i64 a0_2) ∧ w'.cell? ⟨gb109, 3, none⟩ = some (.string a0_3) ∧ w'.cell? ⟨gb109, 4, none⟩ = some (.slice (some ad132) l0_4.length c0_4) ∧ w'.cell? ad132 = some (.int .i64 ((rd_T26 l0_4 0).f0)) ∧ w'.cell? ⟨ad132.block, ad132.off + 1, none⟩ = some (.int .i64 ((rd_T26 l0_4 0).f1)) ∧ w'.cell? ⟨ad132.block, ad132.off + 2, none⟩ = some (.int .i64 ((rd_T26 l0_4 0).f2)) ∧ w'.cell? ⟨ad132.block, ad132.off + 3, none⟩ = some (.string ((rd_T26 l0_4 0).f3)) ∧ w'.cell? ⟨ad132.block, ad132.off + 4, none⟩ = some (.slice A132_4 ((rd_T26 l0_4 0).f4).length c132_4) ∧ w'.cell? ⟨ad132.block, ad132.off + 5, none⟩ = some (.int .i64 ((rd_T26 l0_4 1).f0)) ∧ w'.cell? ⟨ad132.block, ad132.off + 5 + 1, none⟩ = some (.int .i64 ((rd_T26 l0_4 1).f1)) ∧ w'.cell? ⟨ad132.block, ad132.off + 5 + 2, none⟩ = some (.int .i64 ((rd_T26 l0_4 1).f2)) ∧ w'.cell? ⟨ad132.block, ad132.off + 5 + 3, none⟩ = some (.string ((rd_T26 l0_4 1).f3)) ∧ w'.cell? ⟨ad132.block, ad132.off + 5 + 4, none⟩ = some (.slice A135_4 ((rd_T26 l0_4 1).f4).length c135_4)) (ds := []) #[false, false, false, false, false, false, false, false, false, false, false, false, false, false, false, false, false, false] (by kernel_rfl) rfl rfl ⟨(blk_cell BK109.out 0).trans rfl, (blk_cell BK109.out 1).trans rfl, (blk_cell BK109.out 2).trans rfl, (blk_cell BK109.out 3).trans rfl, (blk_cell BK109.out 4).trans rfl, ((HB.out.cell (World.block_lt_of_cell? w _ hw132_0)).trans hw132_0), ((HB.out.cell (World.block_lt_of_cell? w _ hw132_1)).trans hw132_1), ((HB.out.cell (World.block_lt_of_cell? w _ hw132_2)).trans hw132_2), ((HB.out.cell (World.block_lt_of_cell? w _ hw132_3)).trans hw132_3), ((HB.out.cell (World.block_lt_of_cell? w _ hw132_4)).trans hw132_4), ((HB.out.cell (World.block_lt_of_cell? w _ hw135_0)).trans hw135_0), ((HB.out.cell (World.block_lt_of_cell? w _ hw135_1)).trans hw135_1), ((HB.out.cell (World.block_lt_of_cell? w _ hw135_2)).trans hw135_2), ((HB.out.cell (World.block_lt_of_cell? w _ hw135_3)).trans hw135_3), ((HB.out.cell (World.block_lt_of_cell? w _ hw135_4)).trans hw135_4)⟩ (fun hHeld => ?_); refine with_tabW show_Expr.tab22 show_Expr.bits22 (fun HT_ HW_ => ?_)
                                  generalize w101.drew = w103 at BK109 HB HR132_4 HR135_4 hx132_0 hx132_1 hx132_2 hx132_3 hx132_4 hx135_0 hx135_1 hx135_2 hx135_3 hx135_4 hHeld ⊢
                                  refine pure_ (i := 0) (N := some 107) (v := ?_) (a' := ?_) #[true, false, false, false, false, false, false, false, false, false, false, false, false, false, false, false, false, false] rfl rfl (any_of HT_.out (by kernel_rfl)) (fun _ _ _ h => h) (Or.inl ⟨by rfl, ?_⟩) ?_ ?_
                                  rotate_left
                                  · intro w'
                                    go_simp
                                    with_reducible rfl
                                  rotate_left
                                  · simp only [Act.put, List.setIfInBounds_toArray, List.set_cons_zero, List.set_cons_succ, i64_w, i32_w]
                                    rfl
                                  refine pure_ (i := 6) (N := some 113) (v := ?_) (a' := ?_) #[true, false, false, false, false, false, true, false, false, false, false, false, false, false, false, false, false, false] rfl rfl (any_of HT_.out (by kernel_rfl)) (fun _ _ _ h => h) (Or.inl ⟨by rfl, ?_⟩) ?_ ?_
                                  rotate_left
                                  · intro w'
                                    go_simp
                                    with_reducible rfl
                                  rotate_left
                                  · simp only [Act.put, List.setIfInBounds_toArray, List.set_cons_zero, List.set_cons_succ, i64_w, i32_w]
                                    rfl
                                  refine pure_ (i := 11) (N := some 118) (v := ?_) (a' := ?_) #[true, false, false, false, false, false, true, false, false, false, false, true, false, false, false, false, false, false] rfl rfl (any_of HT_.out (by kernel_rfl)) (fun _ _ _ h => h) (Or.inl ⟨by rfl, ?_⟩) ?_ ?_
                                  rotate_left
                                  · intro w'
                                    go_simp
                                    with_reducible rfl
                                  rotate_left
                                  · simp only [Act.put, List.setIfInBounds_toArray, List.set_cons_zero, List.set_cons_succ, i64_w, i32_w]
                                    rfl
                                  refine take_ (i := 1) (N := some 108) (v := ?_) (a' := ?_) #[true, true, false, false, false, false, true, false, false, false, false, true, false, false, false, false, false, false] rfl rfl (take_ofW HT_.out HW_.out (by kernel_rfl)) (fun _ _ _ h => h) (Or.inl ⟨by rfl, ?_⟩) hHeld ?_ ?_
                                  rotate_left
                                  · rintro w' ⟨s0, s1, s2, s3, s4, s5, s6, s7, s8, s9, s10, s11, s12, s13, s14⟩
                                    go_simp
                                    with_reducible rfl
                                  rotate_left
                                  · simp only [Act.put, List.setIfInBounds_toArray, List.set_cons_zero, List.set_cons_succ, i64_w, i32_w]
                                    rfl
                                  refine pure_ (i := 2) (N := some 109) (v := ?_) (a' := ?_) #[true, true, true, false, false, false, true, false, false, false, false, true, false, false, false, false, false, false] rfl rfl (any_of HT_.out (by kernel_rfl)) (fun _ _ _ h => h) (Or.inl ⟨by rfl, ?_⟩) ?_ ?_
                                  rotate_left
                                  · intro w'
                                    go_simp
                                    with_reducible rfl
                                  rotate_left
                                  · simp only [Act.put, List.setIfInBounds_toArray, List.set_cons_zero, List.set_cons_succ, i64_w, i32_w]
                                    rfl
                                  refine take_ (i := 3) (N := some 110) (v := ?_) (a' := ?_) #[true, true, true, true, false, false, true, false, false, false, false, true, false, false, false, false, false, false] rfl rfl (take_ofW HT_.out HW_.out (by kernel_rfl)) (fun _ _ _ h => h) (Or.inl ⟨by rfl, ?_⟩) hHeld ?_ ?_
                                  rotate_left
                                  · rintro w' ⟨s0, s1, s2, s3, s4, s5, s6, s7, s8, s9, s10, s11, s12, s13, s14⟩
                                    go_simp
                                    with_reducible rfl
                                  rotate_left
                                  · simp only [Act.put, List.setIfInBounds_toArray, List.set_cons_zero, List.set_cons_succ, i64_w, i32_w]
                                    rfl
                                  refine take_ (i := 7) (N := some 114) (v := ?_) (a' := ?_) #[true, true, true, true, false, false, true, true, false, false, false, true, false, false, false, false, false, false] rfl rfl (take_ofW HT_.out HW_.out (by kernel_rfl)) (fun _ _ _ h => h) (Or.inl ⟨by rfl, ?_⟩) hHeld ?_ ?_
                                  rotate_left
                                  · rintro w' ⟨s0, s1, s2, s3, s4, s5, s6, s7, s8, s9, s10, s11, s12, s13, s14⟩
                                    go_simp
                                    with_reducible rfl
                                  rotate_left
                                  · simp only [Act.put, List.setIfInBounds_toArray, List.set_cons_zero, List.set_cons_succ, i64_w, i32_w]
                                    rfl
                                  refine take_ (i := 12) (N := some 119) (v := ?_) (a' := ?_) #[true, true, true, true, false, false, true, true, false, false, false, true, true, false, false, false, false, false] rfl rfl (take_ofW HT_.out HW_.out (by kernel_rfl)) (fun _ _ _ h => h) (Or.inl ⟨by rfl, ?_⟩) hHeld ?_ ?_
                                  rotate_left
                                  · rintro w' ⟨s0, s1, s2, s3, s4, s5, s6, s7, s8, s9, s10, s11, s12, s13, s14⟩
                                    go_simp
                                    with_reducible rfl
                                  rotate_left
                                  · simp only [Act.put, List.setIfInBounds_toArray, List.set_cons_zero, List.set_cons_succ, i64_w, i32_w]
                                    rfl
                                  refine pure_ (i := 13) (N := some 120) (v := ?_) (a' := ?_) #[true, true, true, true, false, false, true, true, false, false, false, true, true, true, false, false, false, false] rfl rfl (any_of HT_.out (by kernel_rfl)) (fun _ _ _ h => h) (Or.inl ⟨by rfl, ?_⟩) ?_ ?_
                                  rotate_left
                                  · intro w'
                                    go_simp
                                    with_reducible rfl
                                  rotate_left
                                  · simp only [Act.put, List.setIfInBounds_toArray, List.set_cons_zero, List.set_cons_succ, i64_w, i32_w]
                                    rfl
                                  refine take_ (i := 14) (N := some 121) (v := ?_) (a' := ?_) #[true, true, true, true, false, false, true, true, false, false, false, true, true, true, true, false, false, false] rfl rfl (take_ofW HT_.out HW_.out (by kernel_rfl)) (fun _ _ _ h => h) (Or.inl ⟨by rfl, ?_⟩) hHeld ?_ ?_
                                  rotate_left
                                  · rintro w' ⟨s0, s1, s2, s3, s4, s5, s6, s7, s8, s9, s10, s11, s12, s13, s14⟩
                                    go_simp
                                    with_reducible rfl
                                  rotate_left
                                  · simp only [Act.put, List.setIfInBounds_toArray, List.set_cons_zero, List.set_cons_succ, i64_w, i32_w]
                                    rfl
                                  refine one_ (i := 4) (N := some 111) #[true, true, true, true, true, false, true, true, false, false, false, true, true, true, true, false, false, false] rfl rfl (one_of HT_.out (by kernel_rfl)) (by decide) (fun K hK => ?_)
                                  refine goes_ Tryd.func26 (by kernel_rfl) rfl #[.agg #[.int .i64 ((rd_T26 l0_4 0).f0), .int .i64 ((rd_T26 l0_4 0).f1), .int .i64 ((rd_T26 l0_4 0).f2), .string ((rd_T26 l0_4 0).f3), .slice A132_4 ((rd_T26 l0_4 0).f4).length c132_4]] (by rfl) rfl rfl (by (try simp only [List.map_toArray, List.map_cons, List.map_nil]); first | done | rfl | (simp only [List.length_drop, List.length_take]; rfl)) ?_
                                  with_reducible refine (show_in.calls (show_Expr.f k) (ih k (by omega)) k ((rd_T26 l0_4 0).f0) ((rd_T26 l0_4 0).f1) ((rd_T26 l0_4 0).f2) ((rd_T26 l0_4 0).f3) _ _ ((rd_T26 l0_4 0).f4) t133 _ ?side1 ?side2 ?side3 A92.out).mono ?_
                                  (case side1 => repeat (first | exact (Kd.C_below HR132_4.out HB.out) | (with_reducible refine Kd.C_alloc ?_ _) | (with_reducible refine Kd.C_drewN ?_ _) | (with_reducible refine Kd.C_drew ?_)))
                                  (case side2 => exact HC132_4.out)
                                  (case side3 => exact GlobW.below HG.out (by repeat (first | (with_reducible first | exact HB.out | apply below_alloc | apply pw_below_drewN | apply below_drew1 | refine below_set ?_ GE109.out) | exact HB.out)))
                                  rintro e w104 ⟨rfl, hb⟩
                                  refine ⟨_, rfl, ?_⟩
                                  have n0_ := Aside0.mk (blk_below (g := gb109) (o := .cells #[.int .i64 a0_0, .int .i64 a0_1, .int .i64 a0_2, .string a0_3, .slice (some ad132) l0_4.length c0_4] 26 (0, 0)) (by (with_reducible repeat (first | refine blk_drewN ?_ _ | refine blk_drew ?_ | refine blk_alloc ?_ _)); exact BK109.out) hb)
                                  have n1_ := Aside0.mk (below_step (by repeat (first | (with_reducible first | exact HB.out | apply below_alloc | apply pw_below_drewN | apply below_drew1 | refine below_set ?_ GE109.out) | exact HB.out)) hb)
                                  clear BK109
                                  clear HB
                                  have BK109 := n0_
                                  have HB := n1_
                                  clear n0_ n1_
                                  (try clear hb)
                                  (try clear hb2)
                                  (try clear hk)
                                  (try clear hi)
                                  refine hK.out _ _ ⟨(blk_cell BK109.out 0).trans rfl, (blk_cell BK109.out 1).trans rfl, (blk_cell BK109.out 2).trans rfl, (blk_cell BK109.out 3).trans rfl, (blk_cell BK109.out 4).trans rfl, ((HB.out.cell (World.block_lt_of_cell? w _ hw132_0)).trans hw132_0), ((HB.out.cell (World.block_lt_of_cell? w _ hw132_1)).trans hw132_1), ((HB.out.cell (World.block_lt_of_cell? w _ hw132_2)).trans hw132_2), ((HB.out.cell (World.block_lt_of_cell? w _ hw132_3)).trans hw132_3), ((HB.out.cell (World.block_lt_of_cell? w _ hw132_4)).trans hw132_4), ((HB.out.cell (World.block_lt_of_cell? w _ hw135_0)).trans hw135_0), ((HB.out.cell (World.block_lt_of_cell? w _ hw135_1)).trans hw135_1), ((HB.out.cell (World.block_lt_of_cell? w _ hw135_2)).trans hw135_2), ((HB.out.cell (World.block_lt_of_cell? w _ hw135_3)).trans hw135_3), ((HB.out.cell (World.block_lt_of_cell? w _ hw135_4)).trans hw135_4)⟩ (fun hHeld => ?_)
                                  clear hK K
                                  refine norm_ (a' := ?_) ?_ ?_
                                  rotate_left
                                  · show Act.put _ (some 111) _ = _
                                    simp only [Act.put, List.setIfInBounds_toArray, List.set_cons_zero, List.set_cons_succ, i64_w, i32_w]
                                    rfl
                                  refine pure_ (i := 5) (N := some 112) (v := ?_) (a' := ?_) #[true, true, true, true, true, true, true, true, false, false, false, true, true, true, true, false, false, false] rfl rfl (any_of HT_.out (by kernel_rfl)) (fun _ _ _ h => h) (Or.inl ⟨by rfl, ?_⟩) ?_ ?_
                                  rotate_left
                                  · intro w'
                                    go_simp
                                    with_reducible rfl
                                  rotate_left
                                  · simp only [Act.put, List.setIfInBounds_toArray, List.set_cons_zero, List.set_cons_succ, i64_w, i32_w]
                                    rfl
                                  refine one_ (i := 8) (N := some 115) #[true, true, true, true, true, true, true, true, true, false, false, true, true, true, true, false, false, false] rfl rfl (one_of HT_.out (by kernel_rfl)) (by decide) (fun K hK => ?_)
                                  refine goes_ Tryd.func28 (by kernel_rfl) rfl #[.int .i64 a0_0] (by rfl) rfl rfl (by (try simp only [List.map_toArray, List.map_cons, List.map_nil]); first | done | rfl | (simp only [List.length_drop, List.length_take]; rfl)) ?_
                                  with_reducible refine (show_Sign.calls k a0_0 t134 _ A94.out).mono ?_
                                  rintro e w105 ⟨rfl, hb⟩
                                  refine ⟨_, rfl, ?_⟩
                                  have n0_ := Aside0.mk (blk_below (g := gb109) (o := .cells #[.int .i64 a0_0, .int .i64 a0_1, .int .i64 a0_2, .string a0_3, .slice (some ad132) l0_4.length c0_4] 26 (0, 0)) (by (with_reducible repeat (first | refine blk_drewN ?_ _ | refine blk_drew ?_ | refine blk_alloc ?_ _)); exact BK109.out) hb)
                                  have n1_ := Aside0.mk (below_step (by repeat (first | (with_reducible first | exact HB.out | apply below_alloc | apply pw_below_drewN | apply below_drew1 | refine below_set ?_ GE109.out) | exact HB.out)) hb)
                                  clear BK109
                                  clear HB
                                  have BK109 := n0_
                                  have HB := n1_
                                  clear n0_ n1_
                                  (try clear hb)
                                  (try clear hb2)
                                  (try clear hk)
                                  (try clear hi)
                                  refine hK.out _ _ ⟨(blk_cell BK109.out 0).trans rfl, (blk_cell BK109.out 1).trans rfl, (blk_cell BK109.out 2).trans rfl, (blk_cell BK109.out 3).trans rfl, (blk_cell BK109.out 4).trans rfl, ((HB.out.cell (World.block_lt_of_cell? w _ hw132_0)).trans hw132_0), ((HB.out.cell (World.block_lt_of_cell? w _ hw132_1)).trans hw132_1), ((HB.out.cell (World.block_lt_of_cell? w _ hw132_2)).trans hw132_2), ((HB.out.cell (World.block_lt_of_cell? w _ hw132_3)).trans hw132_3), ((HB.out.cell (World.block_lt_of_cell? w _ hw132_4)).trans hw132_4), ((HB.out.cell (World.block_lt_of_cell? w _ hw135_0)).trans hw135_0), ((HB.out.cell (World.block_lt_of_cell? w _ hw135_1)).trans hw135_1), ((HB.out.cell (World.block_lt_of_cell? w _ hw135_2)).trans hw135_2), ((HB.out.cell (World.block_lt_of_cell? w _ hw135_3)).trans hw135_3), ((HB.out.cell (World.block_lt_of_cell? w _ hw135_4)).trans hw135_4)⟩ (fun hHeld => ?_)
                                  clear hK K
                                  refine norm_ (a' := ?_) ?_ ?_
                                  rotate_left
                                  · show Act.put _ (some 115) _ = _
                                    simp only [Act.put, List.setIfInBounds_toArray, List.set_cons_zero, List.set_cons_succ, i64_w, i32_w]
                                    rfl
                                  refine pure_ (i := 9) (N := some 116) (v := ?_) (a' := ?_) #[true, true, true, true, true, true, true, true, true, true, false, true, true, true, true, false, false, false] rfl rfl (any_of HT_.out (by kernel_rfl)) (fun _ _ _ h => h) (Or.inl ⟨by rfl, ?_⟩) ?_ ?_
                                  rotate_left
                                  · intro w'
                                    go_simp
                                    with_reducible rfl
                                  rotate_left
                                  · simp only [Act.put, List.setIfInBounds_toArray, List.set_cons_zero, List.set_cons_succ, i64_w, i32_w]
                                    rfl
                                  refine pure_ (i := 10) (N := some 117) (v := ?_) (a' := ?_) #[true, true, true, true, true, true, true, true, true, true, true, true, true, true, true, false, false, false] rfl rfl (any_of HT_.out (by kernel_rfl)) (fun _ _ _ h => h) (Or.inl ⟨by rfl, ?_⟩) ?_ ?_
                                  rotate_left
                                  · intro w'
                                    go_simp
                                    with_reducible rfl
                                  rotate_left
                                  · simp only [Act.put, List.setIfInBounds_toArray, List.set_cons_zero, List.set_cons_succ, i64_w, i32_w]
                                    rfl
                                  refine one_ (i := 15) (N := some 122) #[true, true, true, true, true, true, true, true, true, true, true, true, true, true, true, true, false, false] rfl rfl (one_of HT_.out (by kernel_rfl)) (by decide) (fun K hK => ?_)
                                  refine goes_ Tryd.func26 (by kernel_rfl) rfl #[.agg #[.int .i64 ((rd_T26 l0_4 1).f0), .int .i64 ((rd_T26 l0_4 1).f1), .int .i64 ((rd_T26 l0_4 1).f2), .string ((rd_T26 l0_4 1).f3), .slice A135_4 ((rd_T26 l0_4 1).f4).length c135_4]] (by rfl) rfl rfl (by (try simp only [List.map_toArray, List.map_cons, List.map_nil]); first | done | rfl | (simp only [List.length_drop, List.length_take]; rfl)) ?_
                                  with_reducible refine (show_in.calls (show_Expr.f k) (ih k (by omega)) k ((rd_T26 l0_4 1).f0) ((rd_T26 l0_4 1).f1) ((rd_T26 l0_4 1).f2) ((rd_T26 l0_4 1).f3) _ _ ((rd_T26 l0_4 1).f4) t136 _ ?side1 ?side2 ?side3 A98.out).mono ?_
                                  (case side1 => repeat (first | exact (Kd.C_below HR135_4.out HB.out) | (with_reducible refine Kd.C_alloc ?_ _) | (with_reducible refine Kd.C_drewN ?_ _) | (with_reducible refine Kd.C_drew ?_)))
                                  (case side2 => exact HC135_4.out)
                                  (case side3 => exact GlobW.below HG.out (by repeat (first | (with_reducible first | exact HB.out | apply below_alloc | apply pw_below_drewN | apply below_drew1 | refine below_set ?_ GE109.out) | exact HB.out)))
                                  rintro e w106 ⟨rfl, hb⟩
                                  refine ⟨_, rfl, ?_⟩
                                  have n0_ := Aside0.mk (blk_below (g := gb109) (o := .cells #[.int .i64 a0_0, .int .i64 a0_1, .int .i64 a0_2, .string a0_3, .slice (some ad132) l0_4.length c0_4] 26 (0, 0)) (by (with_reducible repeat (first | refine blk_drewN ?_ _ | refine blk_drew ?_ | refine blk_alloc ?_ _)); exact BK109.out) hb)
                                  have n1_ := Aside0.mk (below_step (by repeat (first | (with_reducible first | exact HB.out | apply below_alloc | apply pw_below_drewN | apply below_drew1 | refine below_set ?_ GE109.out) | exact HB.out)) hb)
                                  clear BK109
                                  clear HB
                                  have BK109 := n0_
                                  have HB := n1_
                                  clear n0_ n1_
                                  (try clear hb)
                                  (try clear hb2)
                                  (try clear hk)
                                  (try clear hi)
                                  refine hK.out _ _ ⟨(blk_cell BK109.out 0).trans rfl, (blk_cell BK109.out 1).trans rfl, (blk_cell BK109.out 2).trans rfl, (blk_cell BK109.out 3).trans rfl, (blk_cell BK109.out 4).trans rfl, ((HB.out.cell (World.block_lt_of_cell? w _ hw132_0)).trans hw132_0), ((HB.out.cell (World.block_lt_of_cell? w _ hw132_1)).trans hw132_1), ((HB.out.cell (World.block_lt_of_cell? w _ hw132_2)).trans hw132_2), ((HB.out.cell (World.block_lt_of_cell? w _ hw132_3)).trans hw132_3), ((HB.out.cell (World.block_lt_of_cell? w _ hw132_4)).trans hw132_4), ((HB.out.cell (World.block_lt_of_cell? w _ hw135_0)).trans hw135_0), ((HB.out.cell (World.block_lt_of_cell? w _ hw135_1)).trans hw135_1), ((HB.out.cell (World.block_lt_of_cell? w _ hw135_2)).trans hw135_2), ((HB.out.cell (World.block_lt_of_cell? w _ hw135_3)).trans hw135_3), ((HB.out.cell (World.block_lt_of_cell? w _ hw135_4)).trans hw135_4)⟩ (fun hHeld => ?_)
                                  clear hK K
                                  refine norm_ (a' := ?_) ?_ ?_
                                  rotate_left
                                  · show Act.put _ (some 122) _ = _
                                    simp only [Act.put, List.setIfInBounds_toArray, List.set_cons_zero, List.set_cons_succ, i64_w, i32_w]
                                    rfl
                                  refine pure_ (i := 16) (N := some 123) (v := ?_) (a' := ?_) #[true, true, true, true, true, true, true, true, true, true, true, true, true, true, true, true, true, false] rfl rfl (any_of HT_.out (by kernel_rfl)) (fun _ _ _ h => h) (Or.inl ⟨by rfl, ?_⟩) ?_ ?_
                                  rotate_left
                                  · intro w'
                                    go_simp
                                    with_reducible rfl
                                  rotate_left
                                  · simp only [Act.put, List.setIfInBounds_toArray, List.set_cons_zero, List.set_cons_succ, i64_w, i32_w]
                                    rfl
                                  refine pure_ (i := 17) (N := some 2) (v := ?_) (a' := ?_) #[true, true, true, true, true, true, true, true, true, true, true, true, true, true, true, true, true, true] rfl rfl (any_of HT_.out (by kernel_rfl)) (fun _ _ _ h => h) (Or.inl ⟨by rfl, ?_⟩) ?_ ?_
                                  rotate_left
                                  · intro w'
                                    go_simp
                                    with_reducible rfl
                                  rotate_left
                                  · simp only [Act.put, List.setIfInBounds_toArray, List.set_cons_zero, List.set_cons_succ, i64_w, i32_w]
                                    rfl
                                  refine done_ (done_of HT_.out (by kernel_rfl)) ?_
                                  try go_wp2
                                  go_ret
                                  exact ⟨by first | rfl | (simp [errW_none, errW_some] <;> rfl) | (simp [*, errW_none, errW_some] <;> rfl), by repeat (first | (with_reducible first | exact HB.out | apply below_alloc | apply pw_below_drewN | apply below_drew1 | refine below_set ?_ GE109.out) | exact HB.out)⟩
                                · rw [if_neg c99] at H
                                  exact absurd H (by simp)
                              · rw [if_neg c97] at H
                                exact absurd H (by simp)
                            · rw [if_neg c96] at H
                              exact absurd H (by simp)
                          · rw [if_neg c95] at H
                            exact absurd H (by simp)
                        · rw [if_neg c93] at H
                          exact absurd H (by simp)
                      · rw [if_neg c91] at H
                        exact absurd H (by simp)

end Go.Proofs.YtgmnklfbmbahcaaDoor.KTShowForms
