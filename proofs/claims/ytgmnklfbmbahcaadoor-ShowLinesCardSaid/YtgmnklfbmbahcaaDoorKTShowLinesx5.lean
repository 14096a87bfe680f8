/- By a program of this session (kprint.py) over the printer: functions of the code as plain Lean functions, and the walks that say so. -/
import Derived.Test.YtgmnklfbmbahcaaDoorKTShowLinesx0
import Derived.Test.YtgmnklfbmbahcaaDoorKTShowLinesx3
import Derived.Test.YtgmnklfbmbahcaaDoorKTShowLinesx4
namespace Go.Proofs.YtgmnklfbmbahcaaDoor.KTShowLines
open Go.RowKit Go.Proofs.YtgmnklfbmbahcaaDoorW.PrintWords Go.Proofs.YtgmnklfbmbahcaaDoorW.PrintLast Go.Proofs.YtgmnklfbmbahcaaDoorW.PrintMore
attribute [local go_sem] max2_int min2_int max_two min_two max_three min_three max_four min_four   -- for this text's walks alone
set_option linter.unusedVariables false
set_option linter.unusedSimpArgs false

/-! ### show_Node: function 13 -/
mutual
def show_Node.j0 : Nat → ByteArray → ByteArray → List (S46) → List (S46) → List (S46) → List (S49) → Option (ByteArray)
  | 0, _, _, _, _, _, _ => none
  | k + 1, x3, x170000, x170001, x170002, x170003, x170004 => if x3.size + 4 ≤ 9223372036854775807 then (show_Node.l0 k (x3 ++ (⟨#[108, 101, 116, 10]⟩ : ByteArray)) x170004 (x170004.length : Int) 0) else (none)
def show_Node.l0 : Nat → ByteArray → List (S49) → Int → Int → Option (ByteArray)
  | 0, _, _, _, _ => none
  | k + 1, x3, x34, x35, x36 => if x36 < x35 then (if 0 ≤ x36 then (if x36 < (x34.length : Int) then ((show_Equation.f k ((rd_T49 x34 x36).f0) ((rd_T49 x34 x36).f1) ((rd_T49 x34 x36).f2.f0) ((rd_T49 x34 x36).f2.f1) ((rd_T49 x34 x36).f2.f2) ((rd_T49 x34 x36).f2.f3) ((rd_T49 x34 x36).f2.f4) ((rd_T49 x34 x36).f3) ((rd_T49 x34 x36).f4) ((rd_T49 x34 x36).f5)).bind fun t175 => (if 2 + t175.size ≤ 9223372036854775807 then (if ((⟨#[32, 32]⟩ : ByteArray) ++ t175).size + 2 ≤ 9223372036854775807 then (if x3.size + (((⟨#[32, 32]⟩ : ByteArray) ++ t175) ++ (⟨#[59, 10]⟩ : ByteArray)).size ≤ 9223372036854775807 then (show_Node.l0 k (x3 ++ (((⟨#[32, 32]⟩ : ByteArray) ++ t175) ++ (⟨#[59, 10]⟩ : ByteArray))) x34 x35 (wrap64 (x36 + 1))) else (none)) else (none)) else (none))) else (none)) else (none)) else (if x3.size + 4 ≤ 9223372036854775807 then (some (x3 ++ (⟨#[116, 101, 108, 10]⟩ : ByteArray))) else (none))
end
def show_Node.f (k : Nat) (a0_0 : ByteArray) (l0_1 : List (S46)) (l0_2 : List (S46)) (l0_3 : List (S46)) (l0_4 : List (S49)) : Option (ByteArray) := if 5 + a0_0.size ≤ 9223372036854775807 then (if ((⟨#[110, 111, 100, 101, 32]⟩ : ByteArray) ++ a0_0).size + 1 ≤ 9223372036854775807 then ((show_decls.f k l0_1).bind fun t170 => (if (((⟨#[110, 111, 100, 101, 32]⟩ : ByteArray) ++ a0_0) ++ (⟨#[40]⟩ : ByteArray)).size + t170.size ≤ 9223372036854775807 then (if ((((⟨#[110, 111, 100, 101, 32]⟩ : ByteArray) ++ a0_0) ++ (⟨#[40]⟩ : ByteArray)) ++ t170).size + 11 ≤ 9223372036854775807 then ((show_decls.f k l0_2).bind fun t171 => (if (((((⟨#[110, 111, 100, 101, 32]⟩ : ByteArray) ++ a0_0) ++ (⟨#[40]⟩ : ByteArray)) ++ t170) ++ (⟨#[41, 32, 114, 101, 116, 117, 114, 110, 115, 32, 40]⟩ : ByteArray)).size + t171.size ≤ 9223372036854775807 then (if ((((((⟨#[110, 111, 100, 101, 32]⟩ : ByteArray) ++ a0_0) ++ (⟨#[40]⟩ : ByteArray)) ++ t170) ++ (⟨#[41, 32, 114, 101, 116, 117, 114, 110, 115, 32, 40]⟩ : ByteArray)) ++ t171).size + 3 ≤ 9223372036854775807 then (if (l0_3.length : Int) > 0 then ((show_decls.f k l0_3).bind fun t172 => (if 4 + t172.size ≤ 9223372036854775807 then (if ((⟨#[118, 97, 114, 32]⟩ : ByteArray) ++ t172).size + 2 ≤ 9223372036854775807 then (if (((((((⟨#[110, 111, 100, 101, 32]⟩ : ByteArray) ++ a0_0) ++ (⟨#[40]⟩ : ByteArray)) ++ t170) ++ (⟨#[41, 32, 114, 101, 116, 117, 114, 110, 115, 32, 40]⟩ : ByteArray)) ++ t171) ++ (⟨#[41, 59, 10]⟩ : ByteArray)).size + (((⟨#[118, 97, 114, 32]⟩ : ByteArray) ++ t172) ++ (⟨#[59, 10]⟩ : ByteArray)).size ≤ 9223372036854775807 then (show_Node.j0 k ((((((((⟨#[110, 111, 100, 101, 32]⟩ : ByteArray) ++ a0_0) ++ (⟨#[40]⟩ : ByteArray)) ++ t170) ++ (⟨#[41, 32, 114, 101, 116, 117, 114, 110, 115, 32, 40]⟩ : ByteArray)) ++ t171) ++ (⟨#[41, 59, 10]⟩ : ByteArray)) ++ (((⟨#[118, 97, 114, 32]⟩ : ByteArray) ++ t172) ++ (⟨#[59, 10]⟩ : ByteArray))) a0_0 l0_1 l0_2 l0_3 l0_4) else (none)) else (none)) else (none))) else (show_Node.j0 k (((((((⟨#[110, 111, 100, 101, 32]⟩ : ByteArray) ++ a0_0) ++ (⟨#[40]⟩ : ByteArray)) ++ t170) ++ (⟨#[41, 32, 114, 101, 116, 117, 114, 110, 115, 32, 40]⟩ : ByteArray)) ++ t171) ++ (⟨#[41, 59, 10]⟩ : ByteArray)) a0_0 l0_1 l0_2 l0_3 l0_4)) else (none)) else (none))) else (none)) else (none))) else (none)) else (none)
def show_Node.T1 : Bool × List (List Nat × List Nat) := (true, [([], []), ([0], [0]), ([1], [1]), ([2], [2]), ([], []), ([4], [4]), ([5], [5]), ([3, 6], [3, 6]), ([7], [7]), ([], []), ([9], [9]), ([10, 6], [10]), ([8, 11], [8, 11]), ([12], [12]), ([13, 11, 0, 1, 2, 3, 4, 5, 6, 7, 8, 9, 10, 11, 12, 13], [13])])
def show_Node.B1 : List Nat := [0, 1, 3, 7, 0, 16, 48, 127, 255, 0, 512, 1648, 4095, 8191, 16383]
theorem show_Node.tab1 : rtab .any (opsOf Tryd.f13 1) = show_Node.T1 := by kernel_rfl
theorem show_Node.bits1 : waitsOk show_Node.T1.2 show_Node.B1 = true := by kernel_rfl
set_option maxHeartbeats 8000000 in
set_option maxRecDepth 100000 in
theorem show_Node.calls [Sent] (k : Nat) (a0_0 : ByteArray) (A0_1 : Option Addr) (c0_1 : Nat) (l0_1 : List (S46)) (A0_2 : Option Addr) (c0_2 : Nat) (l0_2 : List (S46)) (A0_3 : Option Addr) (c0_3 : Nat) (l0_3 : List (S46)) (A0_4 : Option Addr) (c0_4 : Nat) (l0_4 : List (S49)) (r : ByteArray) (w : World) (hr0_1 : Kd.C k46 w A0_1 l0_1.length l0_1) (hc0_1 : l0_1.length ≤ c0_1) (hr0_2 : Kd.C k46 w A0_2 l0_2.length l0_2) (hc0_2 : l0_2.length ≤ c0_2) (hr0_3 : Kd.C k46 w A0_3 l0_3.length l0_3) (hc0_3 : l0_3.length ≤ c0_3) (hr0_4 : Kd.C k49 w A0_4 l0_4.length l0_4) (hc0_4 : l0_4.length ≤ c0_4) (hG : GlobW w) (h : show_Node.f k a0_0 l0_1 l0_2 l0_3 l0_4 = some r) :
    Calls Tryd.prog 13 #[.agg #[.string a0_0, .slice A0_1 l0_1.length c0_1, .slice A0_2 l0_2.length c0_2, .slice A0_3 l0_3.length c0_3, .slice A0_4 l0_4.length c0_4]] w fun e w' => e = .returned (.string r) ∧ Below w.heap.size w w' := by
  have hu36 := Tryd.underlying36
  have hu49 := Tryd.underlying49
  have HR0_1 := Aside0.mk hr0_1
  have HC0_1 := Aside0.mk hc0_1
  clear hr0_1 hc0_1
  have HR0_2 := Aside0.mk hr0_2
  have HC0_2 := Aside0.mk hc0_2
  clear hr0_2 hc0_2
  have HR0_3 := Aside0.mk hr0_3
  have HC0_3 := Aside0.mk hc0_3
  clear hr0_3 hc0_3
  have HR0_4 := Aside0.mk hr0_4
  have HC0_4 := Aside0.mk hc0_4
  clear hr0_4 hc0_4
  have HB := Aside0.mk (Below.refl w.heap.size w)
  have HG := Aside0.mk hG
  clear hG
  have H : (if 5 + a0_0.size ≤ 9223372036854775807 then (if ((⟨#[110, 111, 100, 101, 32]⟩ : ByteArray) ++ a0_0).size + 1 ≤ 9223372036854775807 then ((show_decls.f k l0_1).bind fun t170 => (if (((⟨#[110, 111, 100, 101, 32]⟩ : ByteArray) ++ a0_0) ++ (⟨#[40]⟩ : ByteArray)).size + t170.size ≤ 9223372036854775807 then (if ((((⟨#[110, 111, 100, 101, 32]⟩ : ByteArray) ++ a0_0) ++ (⟨#[40]⟩ : ByteArray)) ++ t170).size + 11 ≤ 9223372036854775807 then ((show_decls.f k l0_2).bind fun t171 => (if (((((⟨#[110, 111, 100, 101, 32]⟩ : ByteArray) ++ a0_0) ++ (⟨#[40]⟩ : ByteArray)) ++ t170) ++ (⟨#[41, 32, 114, 101, 116, 117, 114, 110, 115, 32, 40]⟩ : ByteArray)).size + t171.size ≤ 9223372036854775807 then (if ((((((⟨#[110, 111, 100, 101, 32]⟩ : ByteArray) ++ a0_0) ++ (⟨#[40]⟩ : ByteArray)) ++ t170) ++ (⟨#[41, 32, 114, 101, 116, 117, 114, 110, 115, 32, 40]⟩ : ByteArray)) ++ t171).size + 3 ≤ 9223372036854775807 then (if (l0_3.length : Int) > 0 then ((show_decls.f k l0_3).bind fun t172 => (if 4 + t172.size ≤ 9223372036854775807 then (if ((⟨#[118, 97, 114, 32]⟩ : ByteArray) ++ t172).size + 2 ≤ 9223372036854775807 then (if (((((((⟨#[110, 111, 100, 101, 32]⟩ : ByteArray) ++ a0_0) ++ (⟨#[40]⟩ : ByteArray)) ++ t170) ++ (⟨#[41, 32, 114, 101, 116, 117, 114, 110, 115, 32, 40]⟩ : ByteArray)) ++ t171) ++ (⟨#[41, 59, 10]⟩ : ByteArray)).size + (((⟨#[118, 97, 114, 32]⟩ : ByteArray) ++ t172) ++ (⟨#[59, 10]⟩ : ByteArray)).size ≤ 9223372036854775807 then (show_Node.j0 k ((((((((⟨#[110, 111, 100, 101, 32]⟩ : ByteArray) ++ a0_0) ++ (⟨#[40]⟩ : ByteArray)) ++ t170) ++ (⟨#[41, 32, 114, 101, 116, 117, 114, 110, 115, 32, 40]⟩ : ByteArray)) ++ t171) ++ (⟨#[41, 59, 10]⟩ : ByteArray)) ++ (((⟨#[118, 97, 114, 32]⟩ : ByteArray) ++ t172) ++ (⟨#[59, 10]⟩ : ByteArray))) a0_0 l0_1 l0_2 l0_3 l0_4) else (none)) else (none)) else (none))) else (show_Node.j0 k (((((((⟨#[110, 111, 100, 101, 32]⟩ : ByteArray) ++ a0_0) ++ (⟨#[40]⟩ : ByteArray)) ++ t170) ++ (⟨#[41, 32, 114, 101, 116, 117, 114, 110, 115, 32, 40]⟩ : ByteArray)) ++ t171) ++ (⟨#[41, 59, 10]⟩ : ByteArray)) a0_0 l0_1 l0_2 l0_3 l0_4)) else (none)) else (none))) else (none)) else (none))) else (none)) else (none)) = some r := h
  clear h
  by_cases c2 : 5 + a0_0.size ≤ 9223372036854775807
  · rw [if_pos c2] at H
    have c2b0 := eq_true c2
    have c2b1 : decide (5 + a0_0.size ≤ 9223372036854775807) = true := decide_eq_true c2
    try have c2b2 : (9223372036854775807 < 5 + a0_0.size) = False := eq_false (Nat.not_lt.2 c2)
    by_cases c3 : ((⟨#[110, 111, 100, 101, 32]⟩ : ByteArray) ++ a0_0).size + 1 ≤ 9223372036854775807
    · rw [if_pos c3] at H
      have c3b0 := eq_true c3
      have c3b1 : decide (((⟨#[110, 111, 100, 101, 32]⟩ : ByteArray) ++ a0_0).size + 1 ≤ 9223372036854775807) = true := decide_eq_true c3
      try have c3b2 : (9223372036854775807 < ((⟨#[110, 111, 100, 101, 32]⟩ : ByteArray) ++ a0_0).size + 1) = False := eq_false (Nat.not_lt.2 c3)
      (try (have c3b4 := c3b2; simp only [ByteArray.size_append, show (⟨#[110, 111, 100, 101, 32]⟩ : ByteArray).size = 5 from rfl] at c3b4))
      replace H := Option.bind_eq_some_iff.mp H
      obtain ⟨t170, A40, H⟩ := H
      replace H : (if (((⟨#[110, 111, 100, 101, 32]⟩ : ByteArray) ++ a0_0) ++ (⟨#[40]⟩ : ByteArray)).size + t170.size ≤ 9223372036854775807 then (if ((((⟨#[110, 111, 100, 101, 32]⟩ : ByteArray) ++ a0_0) ++ (⟨#[40]⟩ : ByteArray)) ++ t170).size + 11 ≤ 9223372036854775807 then ((show_decls.f k l0_2).bind fun t171 => (if (((((⟨#[110, 111, 100, 101, 32]⟩ : ByteArray) ++ a0_0) ++ (⟨#[40]⟩ : ByteArray)) ++ t170) ++ (⟨#[41, 32, 114, 101, 116, 117, 114, 110, 115, 32, 40]⟩ : ByteArray)).size + t171.size ≤ 9223372036854775807 then (if ((((((⟨#[110, 111, 100, 101, 32]⟩ : ByteArray) ++ a0_0) ++ (⟨#[40]⟩ : ByteArray)) ++ t170) ++ (⟨#[41, 32, 114, 101, 116, 117, 114, 110, 115, 32, 40]⟩ : ByteArray)) ++ t171).size + 3 ≤ 9223372036854775807 then (if (l0_3.length : Int) > 0 then ((show_decls.f k l0_3).bind fun t172 => (if 4 + t172.size ≤ 9223372036854775807 then (if ((⟨#[118, 97, 114, 32]⟩ : ByteArray) ++ t172).size + 2 ≤ 9223372036854775807 then (if (((((((⟨#[110, 111, 100, 101, 32]⟩ : ByteArray) ++ a0_0) ++ (⟨#[40]⟩ : ByteArray)) ++ t170) ++ (⟨#[41, 32, 114, 101, 116, 117, 114, 110, 115, 32, 40]⟩ : ByteArray)) ++ t171) ++ (⟨#[41, 59, 10]⟩ : ByteArray)).size + (((⟨#[118, 97, 114, 32]⟩ : ByteArray) ++ t172) ++ (⟨#[59, 10]⟩ : ByteArray)).size ≤ 9223372036854775807 then (show_Node.j0 k ((((((((⟨#[110, 111, 100, 101, 32]⟩ : ByteArray) ++ a0_0) ++ (⟨#[40]⟩ : ByteArray)) ++ t170) ++ (⟨#[41, 32, 114, 101, 116, 117, 114, 110, 115, 32, 40]⟩ : ByteArray)) ++ t171) ++ (⟨#[41, 59, 10]⟩ : ByteArray)) ++ (((⟨#[118, 97, 114, 32]⟩ : ByteArray) ++ t172) ++ (⟨#[59, 10]⟩ : ByteArray))) a0_0 l0_1 l0_2 l0_3 l0_4) else (none)) else (none)) else (none))) else (show_Node.j0 k (((((((⟨#[110, 111, 100, 101, 32]⟩ : ByteArray) ++ a0_0) ++ (⟨#[40]⟩ : ByteArray)) ++ t170) ++ (⟨#[41, 32, 114, 101, 116, 117, 114, 110, 115, 32, 40]⟩ : ByteArray)) ++ t171) ++ (⟨#[41, 59, 10]⟩ : ByteArray)) a0_0 l0_1 l0_2 l0_3 l0_4)) else (none)) else (none))) else (none)) else (none)) = some r := H
      have A4 := Aside0.mk A40
      clear A40
      by_cases c5 : (((⟨#[110, 111, 100, 101, 32]⟩ : ByteArray) ++ a0_0) ++ (⟨#[40]⟩ : ByteArray)).size + t170.size ≤ 9223372036854775807
      · rw [if_pos c5] at H
        have c5b0 := eq_true c5
        have c5b1 : decide ((((⟨#[110, 111, 100, 101, 32]⟩ : ByteArray) ++ a0_0) ++ (⟨#[40]⟩ : ByteArray)).size + t170.size ≤ 9223372036854775807) = true := decide_eq_true c5
        try have c5b2 : (9223372036854775807 < (((⟨#[110, 111, 100, 101, 32]⟩ : ByteArray) ++ a0_0) ++ (⟨#[40]⟩ : ByteArray)).size + t170.size) = False := eq_false (Nat.not_lt.2 c5)
        (try (have c5b4 := c5b2; simp only [ByteArray.size_append, show (⟨#[110, 111, 100, 101, 32]⟩ : ByteArray).size = 5 from rfl, show (⟨#[40]⟩ : ByteArray).size = 1 from rfl] at c5b4))
        by_cases c6 : ((((⟨#[110, 111, 100, 101, 32]⟩ : ByteArray) ++ a0_0) ++ (⟨#[40]⟩ : ByteArray)) ++ t170).size + 11 ≤ 9223372036854775807
        · rw [if_pos c6] at H
          have c6b0 := eq_true c6
          have c6b1 : decide (((((⟨#[110, 111, 100, 101, 32]⟩ : ByteArray) ++ a0_0) ++ (⟨#[40]⟩ : ByteArray)) ++ t170).size + 11 ≤ 9223372036854775807) = true := decide_eq_true c6
          try have c6b2 : (9223372036854775807 < ((((⟨#[110, 111, 100, 101, 32]⟩ : ByteArray) ++ a0_0) ++ (⟨#[40]⟩ : ByteArray)) ++ t170).size + 11) = False := eq_false (Nat.not_lt.2 c6)
          (try (have c6b4 := c6b2; simp only [ByteArray.size_append, show (⟨#[110, 111, 100, 101, 32]⟩ : ByteArray).size = 5 from rfl, show (⟨#[40]⟩ : ByteArray).size = 1 from rfl] at c6b4))
          replace H := Option.bind_eq_some_iff.mp H
          obtain ⟨t171, A70, H⟩ := H
          replace H : (if (((((⟨#[110, 111, 100, 101, 32]⟩ : ByteArray) ++ a0_0) ++ (⟨#[40]⟩ : ByteArray)) ++ t170) ++ (⟨#[41, 32, 114, 101, 116, 117, 114, 110, 115, 32, 40]⟩ : ByteArray)).size + t171.size ≤ 9223372036854775807 then (if ((((((⟨#[110, 111, 100, 101, 32]⟩ : ByteArray) ++ a0_0) ++ (⟨#[40]⟩ : ByteArray)) ++ t170) ++ (⟨#[41, 32, 114, 101, 116, 117, 114, 110, 115, 32, 40]⟩ : ByteArray)) ++ t171).size + 3 ≤ 9223372036854775807 then (if (l0_3.length : Int) > 0 then ((show_decls.f k l0_3).bind fun t172 => (if 4 + t172.size ≤ 9223372036854775807 then (if ((⟨#[118, 97, 114, 32]⟩ : ByteArray) ++ t172).size + 2 ≤ 9223372036854775807 then (if (((((((⟨#[110, 111, 100, 101, 32]⟩ : ByteArray) ++ a0_0) ++ (⟨#[40]⟩ : ByteArray)) ++ t170) ++ (⟨#[41, 32, 114, 101, 116, 117, 114, 110, 115, 32, 40]⟩ : ByteArray)) ++ t171) ++ (⟨#[41, 59, 10]⟩ : ByteArray)).size + (((⟨#[118, 97, 114, 32]⟩ : ByteArray) ++ t172) ++ (⟨#[59, 10]⟩ : ByteArray)).size ≤ 9223372036854775807 then (show_Node.j0 k ((((((((⟨#[110, 111, 100, 101, 32]⟩ : ByteArray) ++ a0_0) ++ (⟨#[40]⟩ : ByteArray)) ++ t170) ++ (⟨#[41, 32, 114, 101, 116, 117, 114, 110, 115, 32, 40]⟩ : ByteArray)) ++ t171) ++ (⟨#[41, 59, 10]⟩ : ByteArray)) ++ (((⟨#[118, 97, 114, 32]⟩ : ByteArray) ++ t172) ++ (⟨#[59, 10]⟩ : ByteArray))) a0_0 l0_1 l0_2 l0_3 l0_4) else (none)) else (none)) else (none))) else (show_Node.j0 k (((((((⟨#[110, 111, 100, 101, 32]⟩ : ByteArray) ++ a0_0) ++ (⟨#[40]⟩ : ByteArray)) ++ t170) ++ (⟨#[41, 32, 114, 101, 116, 117, 114, 110, 115, 32, 40]⟩ : ByteArray)) ++ t171) ++ (⟨#[41, 59, 10]⟩ : ByteArray)) a0_0 l0_1 l0_2 l0_3 l0_4)) else (none)) else (none)) = some r := H
          have A7 := Aside0.mk A70
          clear A70
          by_cases c8 : (((((⟨#[110, 111, 100, 101, 32]⟩ : ByteArray) ++ a0_0) ++ (⟨#[40]⟩ : ByteArray)) ++ t170) ++ (⟨#[41, 32, 114, 101, 116, 117, 114, 110, 115, 32, 40]⟩ : ByteArray)).size + t171.size ≤ 9223372036854775807
          · rw [if_pos c8] at H
            have c8b0 := eq_true c8
            have c8b1 : decide ((((((⟨#[110, 111, 100, 101, 32]⟩ : ByteArray) ++ a0_0) ++ (⟨#[40]⟩ : ByteArray)) ++ t170) ++ (⟨#[41, 32, 114, 101, 116, 117, 114, 110, 115, 32, 40]⟩ : ByteArray)).size + t171.size ≤ 9223372036854775807) = true := decide_eq_true c8
            try have c8b2 : (9223372036854775807 < (((((⟨#[110, 111, 100, 101, 32]⟩ : ByteArray) ++ a0_0) ++ (⟨#[40]⟩ : ByteArray)) ++ t170) ++ (⟨#[41, 32, 114, 101, 116, 117, 114, 110, 115, 32, 40]⟩ : ByteArray)).size + t171.size) = False := eq_false (Nat.not_lt.2 c8)
            (try (have c8b4 := c8b2; simp only [ByteArray.size_append, show (⟨#[110, 111, 100, 101, 32]⟩ : ByteArray).size = 5 from rfl, show (⟨#[40]⟩ : ByteArray).size = 1 from rfl, show (⟨#[41, 32, 114, 101, 116, 117, 114, 110, 115, 32, 40]⟩ : ByteArray).size = 11 from rfl] at c8b4))
            by_cases c9 : ((((((⟨#[110, 111, 100, 101, 32]⟩ : ByteArray) ++ a0_0) ++ (⟨#[40]⟩ : ByteArray)) ++ t170) ++ (⟨#[41, 32, 114, 101, 116, 117, 114, 110, 115, 32, 40]⟩ : ByteArray)) ++ t171).size + 3 ≤ 9223372036854775807
            · rw [if_pos c9] at H
              have c9b0 := eq_true c9
              have c9b1 : decide (((((((⟨#[110, 111, 100, 101, 32]⟩ : ByteArray) ++ a0_0) ++ (⟨#[40]⟩ : ByteArray)) ++ t170) ++ (⟨#[41, 32, 114, 101, 116, 117, 114, 110, 115, 32, 40]⟩ : ByteArray)) ++ t171).size + 3 ≤ 9223372036854775807) = true := decide_eq_true c9
              try have c9b2 : (9223372036854775807 < ((((((⟨#[110, 111, 100, 101, 32]⟩ : ByteArray) ++ a0_0) ++ (⟨#[40]⟩ : ByteArray)) ++ t170) ++ (⟨#[41, 32, 114, 101, 116, 117, 114, 110, 115, 32, 40]⟩ : ByteArray)) ++ t171).size + 3) = False := eq_false (Nat.not_lt.2 c9)
              (try (have c9b4 := c9b2; simp only [ByteArray.size_append, show (⟨#[110, 111, 100, 101, 32]⟩ : ByteArray).size = 5 from rfl, show (⟨#[40]⟩ : ByteArray).size = 1 from rfl, show (⟨#[41, 32, 114, 101, 116, 117, 114, 110, 115, 32, 40]⟩ : ByteArray).size = 11 from rfl] at c9b4))
              have HC10 := Aside0.mk H
              clear H
              go_enter Tryd.func13, Tryd.ntmps13
              try go_wp2_with (first | ((with_reducible refine gate_dst (N := 1) rfl ?_); refine box_event ?hg (N := 1) ?hd (cs := #[.string a0_0, .slice A0_1 l0_1.length c0_1, .slice A0_2 l0_2.length c0_2, .slice A0_3 l0_3.length c0_3, .slice A0_4 l0_4.length c0_4]) (t := 36) ?hr ?_; (case hd => rfl); (case hg => rfl); (case hr => first | (go_simp; done) | (go_simp; rfl)); intro gb169 hg w11 hbox hb; have n0_ := Aside0.mk (below_step (by repeat (first | (with_reducible first | exact HB.out | apply below_alloc | apply pw_below_drewN | apply below_drew1) | exact HB.out)) hb); have n1_ := Aside0.mk (hbox); have n2_ := Aside0.mk ((by rw [hg]; exact (below_size (by repeat (first | (with_reducible first | exact HB.out | apply below_alloc | apply pw_below_drewN | apply below_drew1) | exact HB.out))) : w.heap.size ≤ gb169)); have n3_ := Aside0.mk ((by rw [hg]; exact (below_size (by repeat (first | (with_reducible first | exact HB.out | apply below_alloc | apply pw_below_drewN | apply below_drew1) | exact HB.out))) : w.heap.size ≤ gb169)); clear HB; have HB := n0_; have BK169 := n1_; have GW169 := n2_; have GE169 := n3_; clear n0_ n1_ n2_ n3_; clear hb hbox hg))
              have n0_ := Aside0.mk (blk_drew BK169.out)
              have n1_ := Aside0.mk (below_drew1 HB.out)
              clear BK169
              clear HB
              have BK169 := n0_
              have HB := n1_
              clear n0_ n1_
              refine start_ (n := 15) (S := fun w' => w'.cell? ⟨gb169, 0, none⟩ = some (.string a0_0) ∧ w'.cell? ⟨gb169, 1, none⟩ = some (.slice A0_1 l0_1.length c0_1) ∧ w'.cell? ⟨gb169, 2, none⟩ = some (.slice A0_2 l0_2.length c0_2) ∧ w'.cell? ⟨gb169, 3, none⟩ = some (.slice A0_3 l0_3.length c0_3) ∧ w'.cell? ⟨gb169, 4, none⟩ = some (.slice A0_4 l0_4.length c0_4)) (ds := []) #[false, false, false, false, false, false, false, false, false, false, false, false, false, false, false] (by kernel_rfl) rfl rfl ⟨(blk_cell BK169.out 0).trans rfl, (blk_cell BK169.out 1).trans rfl, (blk_cell BK169.out 2).trans rfl, (blk_cell BK169.out 3).trans rfl, (blk_cell BK169.out 4).trans rfl⟩ (fun hHeld => ?_); refine with_tabW show_Node.tab1 show_Node.bits1 (fun HT_ HW_ => ?_)
              generalize w11.drew = w12 at BK169 HB hHeld ⊢
              refine pure_ (i := 0) (N := some 6) (v := ?_) (a' := ?_) #[true, false, false, false, false, false, false, false, false, false, false, false, false, false, false] rfl rfl (any_of HT_.out (by kernel_rfl)) (fun _ _ _ h => h) (Or.inl ⟨by rfl, ?_⟩) ?_ ?_
              rotate_left
              · intro w'
                go_simp
                with_reducible rfl
              rotate_left
              · simp only [Act.put, List.setIfInBounds_toArray, List.set_cons_zero, List.set_cons_succ, i64_w, i32_w]
                rfl
              refine pure_ (i := 4) (N := some 10) (v := ?_) (a' := ?_) #[true, false, false, false, true, false, false, false, false, false, false, false, false, false, false] rfl rfl (any_of HT_.out (by kernel_rfl)) (fun _ _ _ h => h) (Or.inl ⟨by rfl, ?_⟩) ?_ ?_
              rotate_left
              · intro w'
                go_simp
                with_reducible rfl
              rotate_left
              · simp only [Act.put, List.setIfInBounds_toArray, List.set_cons_zero, List.set_cons_succ, i64_w, i32_w]
                rfl
              refine pure_ (i := 9) (N := some 15) (v := ?_) (a' := ?_) #[true, false, false, false, true, false, false, false, false, true, false, false, false, false, false] rfl rfl (any_of HT_.out (by kernel_rfl)) (fun _ _ _ h => h) (Or.inl ⟨by rfl, ?_⟩) ?_ ?_
              rotate_left
              · intro w'
                go_simp
                with_reducible rfl
              rotate_left
              · simp only [Act.put, List.setIfInBounds_toArray, List.set_cons_zero, List.set_cons_succ, i64_w, i32_w]
                rfl
              refine take_ (i := 1) (N := some 7) (v := ?_) (a' := ?_) #[true, true, false, false, true, false, false, false, false, true, false, false, false, false, false] rfl rfl (take_ofW HT_.out HW_.out (by kernel_rfl)) (fun _ _ _ h => h) (Or.inl ⟨by rfl, ?_⟩) hHeld ?_ ?_
              rotate_left
              · rintro w' ⟨s0, s1, s2, s3, s4⟩
                go_simp
                with_reducible rfl
              rotate_left
              · simp only [Act.put, List.setIfInBounds_toArray, List.set_cons_zero, List.set_cons_succ, i64_w, i32_w]
                rfl
              refine pure_ (i := 2) (N := some 8) (v := ?_) (a' := ?_) #[true, true, true, false, true, false, false, false, false, true, false, false, false, false, false] rfl rfl (any_of HT_.out (by kernel_rfl)) (fun _ _ _ h => h) (Or.inl ⟨by rfl, ?_⟩) ?_ ?_
              rotate_left
              · intro w'
                go_simp
                with_reducible rfl
              rotate_left
              · simp only [Act.put, List.setIfInBounds_toArray, List.set_cons_zero, List.set_cons_succ, i64_w, i32_w]
                rfl
              refine pure_ (i := 3) (N := some 9) (v := ?_) (a' := ?_) #[true, true, true, true, true, false, false, false, false, true, false, false, false, false, false] rfl rfl (any_of HT_.out (by kernel_rfl)) (fun _ _ _ h => h) (Or.inl ⟨by rfl, ?_⟩) ?_ ?_
              rotate_left
              · intro w'
                go_simp
                with_reducible rfl
              rotate_left
              · simp only [Act.put, List.setIfInBounds_toArray, List.set_cons_zero, List.set_cons_succ, i64_w, i32_w]
                rfl
              refine take_ (i := 5) (N := some 11) (v := ?_) (a' := ?_) #[true, true, true, true, true, true, false, false, false, true, false, false, false, false, false] rfl rfl (take_ofW HT_.out HW_.out (by kernel_rfl)) (fun _ _ _ h => h) (Or.inl ⟨by rfl, ?_⟩) hHeld ?_ ?_
              rotate_left
              · rintro w' ⟨s0, s1, s2, s3, s4⟩
                go_simp
                with_reducible rfl
              rotate_left
              · simp only [Act.put, List.setIfInBounds_toArray, List.set_cons_zero, List.set_cons_succ, i64_w, i32_w]
                rfl
              refine take_ (i := 10) (N := some 16) (v := ?_) (a' := ?_) #[true, true, true, true, true, true, false, false, false, true, true, false, false, false, false] rfl rfl (take_ofW HT_.out HW_.out (by kernel_rfl)) (fun _ _ _ h => h) (Or.inl ⟨by rfl, ?_⟩) hHeld ?_ ?_
              rotate_left
              · rintro w' ⟨s0, s1, s2, s3, s4⟩
                go_simp
                with_reducible rfl
              rotate_left
              · simp only [Act.put, List.setIfInBounds_toArray, List.set_cons_zero, List.set_cons_succ, i64_w, i32_w]
                rfl
              refine one_ (i := 6) (N := some 12) #[true, true, true, true, true, true, true, false, false, true, true, false, false, false, false] rfl rfl (one_of HT_.out (by kernel_rfl)) (by decide) (fun K hK => ?_)
              refine goes_ Tryd.func42 (by kernel_rfl) rfl #[.slice A0_1 l0_1.length c0_1] (by rfl) rfl rfl (by (try simp only [List.map_toArray, List.map_cons, List.map_nil]); first | done | rfl | (simp only [List.length_drop, List.length_take]; rfl)) ?_
              with_reducible refine (show_decls.calls k _ _ l0_1 t170 _ ?side1 ?side2 A4.out).mono ?_
              (case side1 => repeat (first | exact (Kd.C_below HR0_1.out HB.out) | (with_reducible refine Kd.C_alloc ?_ _) | (with_reducible refine Kd.C_drewN ?_ _) | (with_reducible refine Kd.C_drew ?_)))
              (case side2 => exact HC0_1.out)
              rintro e w13 ⟨rfl, hb⟩
              refine ⟨_, rfl, ?_⟩
              have n0_ := Aside0.mk (blk_below (g := gb169) (o := .cells #[.string a0_0, .slice A0_1 l0_1.length c0_1, .slice A0_2 l0_2.length c0_2, .slice A0_3 l0_3.length c0_3, .slice A0_4 l0_4.length c0_4] 36 (0, 0)) (by (with_reducible repeat (first | refine blk_drewN ?_ _ | refine blk_drew ?_ | refine blk_alloc ?_ _)); exact BK169.out) hb)
              have n1_ := Aside0.mk (below_step (by repeat (first | (with_reducible first | exact HB.out | apply below_alloc | apply pw_below_drewN | apply below_drew1 | refine below_set ?_ GE169.out) | exact HB.out)) hb)
              clear BK169
              clear HB
              have BK169 := n0_
              have HB := n1_
              clear n0_ n1_
              (try clear hb)
              (try clear hb2)
              (try clear hk)
              (try clear hi)
              refine hK.out _ _ ⟨(blk_cell BK169.out 0).trans rfl, (blk_cell BK169.out 1).trans rfl, (blk_cell BK169.out 2).trans rfl, (blk_cell BK169.out 3).trans rfl, (blk_cell BK169.out 4).trans rfl⟩ (fun hHeld => ?_)
              clear hK K
              refine norm_ (a' := ?_) ?_ ?_
              rotate_left
              · show Act.put _ (some 12) _ = _
                simp only [Act.put, List.setIfInBounds_toArray, List.set_cons_zero, List.set_cons_succ, i64_w, i32_w]
                rfl
              refine pure_ (i := 7) (N := some 13) (v := ?_) (a' := ?_) #[true, true, true, true, true, true, true, true, false, true, true, false, false, false, false] rfl rfl (any_of HT_.out (by kernel_rfl)) (fun _ _ _ h => h) (Or.inl ⟨by rfl, ?_⟩) ?_ ?_
              rotate_left
              · intro w'
                go_simp
                with_reducible rfl
              rotate_left
              · simp only [Act.put, List.setIfInBounds_toArray, List.set_cons_zero, List.set_cons_succ, i64_w, i32_w]
                rfl
              refine pure_ (i := 8) (N := some 14) (v := ?_) (a' := ?_) #[true, true, true, true, true, true, true, true, true, true, true, false, false, false, false] rfl rfl (any_of HT_.out (by kernel_rfl)) (fun _ _ _ h => h) (Or.inl ⟨by rfl, ?_⟩) ?_ ?_
              rotate_left
              · intro w'
                go_simp
                with_reducible rfl
              rotate_left
              · simp only [Act.put, List.setIfInBounds_toArray, List.set_cons_zero, List.set_cons_succ, i64_w, i32_w]
                rfl
              refine one_ (i := 11) (N := some 17) #[true, true, true, true, true, true, true, true, true, true, true, true, false, false, false] rfl rfl (one_of HT_.out (by kernel_rfl)) (by decide) (fun K hK => ?_)
              refine goes_ Tryd.func42 (by kernel_rfl) rfl #[.slice A0_2 l0_2.length c0_2] (by rfl) rfl rfl (by (try simp only [List.map_toArray, List.map_cons, List.map_nil]); first | done | rfl | (simp only [List.length_drop, List.length_take]; rfl)) ?_
              with_reducible refine (show_decls.calls k _ _ l0_2 t171 _ ?side1 ?side2 A7.out).mono ?_
              (case side1 => repeat (first | exact (Kd.C_below HR0_2.out HB.out) | (with_reducible refine Kd.C_alloc ?_ _) | (with_reducible refine Kd.C_drewN ?_ _) | (with_reducible refine Kd.C_drew ?_)))
              (case side2 => exact HC0_2.out)
              rintro e w14 ⟨rfl, hb⟩
              refine ⟨_, rfl, ?_⟩
              have n0_ := Aside0.mk (blk_below (g := gb169) (o := .cells #[.string a0_0, .slice A0_1 l0_1.length c0_1, .slice A0_2 l0_2.length c0_2, .slice A0_3 l0_3.length c0_3, .slice A0_4 l0_4.length c0_4] 36 (0, 0)) (by (with_reducible repeat (first | refine blk_drewN ?_ _ | refine blk_drew ?_ | refine blk_alloc ?_ _)); exact BK169.out) hb)
              have n1_ := Aside0.mk (below_step (by repeat (first | (with_reducible first | exact HB.out | apply below_alloc | apply pw_below_drewN | apply below_drew1 | refine below_set ?_ GE169.out) | exact HB.out)) hb)
              clear BK169
              clear HB
              have BK169 := n0_
              have HB := n1_
              clear n0_ n1_
              (try clear hb)
              (try clear hb2)
              (try clear hk)
              (try clear hi)
              refine hK.out _ _ ⟨(blk_cell BK169.out 0).trans rfl, (blk_cell BK169.out 1).trans rfl, (blk_cell BK169.out 2).trans rfl, (blk_cell BK169.out 3).trans rfl, (blk_cell BK169.out 4).trans rfl⟩ (fun hHeld => ?_)
              clear hK K
              refine norm_ (a' := ?_) ?_ ?_
              rotate_left
              · show Act.put _ (some 17) _ = _
                simp only [Act.put, List.setIfInBounds_toArray, List.set_cons_zero, List.set_cons_succ, i64_w, i32_w]
                rfl
              refine pure_ (i := 12) (N := some 18) (v := ?_) (a' := ?_) #[true, true, true, true, true, true, true, true, true, true, true, true, true, false, false] rfl rfl (any_of HT_.out (by kernel_rfl)) (fun _ _ _ h => h) (Or.inl ⟨by rfl, ?_⟩) ?_ ?_
              rotate_left
              · intro w'
                go_simp
                with_reducible rfl
              rotate_left
              · simp only [Act.put, List.setIfInBounds_toArray, List.set_cons_zero, List.set_cons_succ, i64_w, i32_w]
                rfl
              refine pure_ (i := 13) (N := some 19) (v := ?_) (a' := ?_) #[true, true, true, true, true, true, true, true, true, true, true, true, true, true, false] rfl rfl (any_of HT_.out (by kernel_rfl)) (fun _ _ _ h => h) (Or.inl ⟨by rfl, ?_⟩) ?_ ?_
              rotate_left
              · intro w'
                go_simp
                with_reducible rfl
              rotate_left
              · simp only [Act.put, List.setIfInBounds_toArray, List.set_cons_zero, List.set_cons_succ, i64_w, i32_w]
                rfl
              refine pure_ (i := 14) (N := some 3) (v := ?_) (a' := ?_) #[true, true, true, true, true, true, true, true, true, true, true, true, true, true, true] rfl rfl (any_of HT_.out (by kernel_rfl)) (fun _ _ _ h => h) (Or.inl ⟨by rfl, ?_⟩) ?_ ?_
              rotate_left
              · intro w'
                go_simp
                with_reducible rfl
              rotate_left
              · simp only [Act.put, List.setIfInBounds_toArray, List.set_cons_zero, List.set_cons_succ, i64_w, i32_w]
                rfl
              refine done_ (done_of HT_.out (by kernel_rfl)) ?_
              have hcz15_0 : w14.cell? ⟨gb169, 0, none⟩ = some (.string a0_0) := (blk_cell BK169.out 0).trans rfl
              have hcz15_1 : w14.cell? ⟨gb169, 1, none⟩ = some (.slice A0_1 l0_1.length c0_1) := (blk_cell BK169.out 1).trans rfl
              have hcz15_2 : w14.cell? ⟨gb169, 2, none⟩ = some (.slice A0_2 l0_2.length c0_2) := (blk_cell BK169.out 2).trans rfl
              have hcz15_3 : w14.cell? ⟨gb169, 3, none⟩ = some (.slice A0_3 l0_3.length c0_3) := (blk_cell BK169.out 3).trans rfl
              have hcz15_4 : w14.cell? ⟨gb169, 4, none⟩ = some (.slice A0_4 l0_4.length c0_4) := (blk_cell BK169.out 4).trans rfl
              have hfz15_0 := blk_frozen BK169.out 0
              have hfz15_1 := blk_frozen BK169.out 1
              have hfz15_2 := blk_frozen BK169.out 2
              have hfz15_3 := blk_frozen BK169.out 3
              have hfz15_4 := blk_frozen BK169.out 4
              go_upto_if 23 with (fail)
              go_cut [3] (fun v3 wc => ∃ (kq : Nat) (x3_9 : ByteArray), v3 = .string x3_9 ∧ Aside0 (show_Node.j0 kq x3_9 a0_0 l0_1 l0_2 l0_3 l0_4 = some r) ∧ Aside0 (kq ≤ k) ∧ Aside0 (wc.heap[gb169]? = some (.cells #[.string a0_0, (.slice A0_1 l0_1.length c0_1), (.slice A0_2 l0_2.length c0_2), (.slice A0_3 l0_3.length c0_3), (.slice A0_4 l0_4.length c0_4)] 36 (0, 0))) ∧ Aside0 (Below w.heap.size w wc))
              case first =>
                have H := HC10.out
                clear HC10
                by_cases c16 : (l0_3.length : Int) > 0
                · rw [if_pos c16] at H
                  have c16b0 : decide (0 < (l0_3.length : Int)) = true := decide_eq_true c16
                  have c16b1 : decide (0 < l0_3.length) = true := decide_eq_true (by omega)
                  clear c16
                  have c16p1 := eq_true (of_decide_eq_true c16b1)
                  (first | rw [c16b0] | (simp only [i64_w, i32_w]; rw [c16b0]) | skip)
                  replace H := Option.bind_eq_some_iff.mp H
                  obtain ⟨t172, A170, H⟩ := H
                  replace H : (if 4 + t172.size ≤ 9223372036854775807 then (if ((⟨#[118, 97, 114, 32]⟩ : ByteArray) ++ t172).size + 2 ≤ 9223372036854775807 then (if (((((((⟨#[110, 111, 100, 101, 32]⟩ : ByteArray) ++ a0_0) ++ (⟨#[40]⟩ : ByteArray)) ++ t170) ++ (⟨#[41, 32, 114, 101, 116, 117, 114, 110, 115, 32, 40]⟩ : ByteArray)) ++ t171) ++ (⟨#[41, 59, 10]⟩ : ByteArray)).size + (((⟨#[118, 97, 114, 32]⟩ : ByteArray) ++ t172) ++ (⟨#[59, 10]⟩ : ByteArray)).size ≤ 9223372036854775807 then (show_Node.j0 k ((((((((⟨#[110, 111, 100, 101, 32]⟩ : ByteArray) ++ a0_0) ++ (⟨#[40]⟩ : ByteArray)) ++ t170) ++ (⟨#[41, 32, 114, 101, 116, 117, 114, 110, 115, 32, 40]⟩ : ByteArray)) ++ t171) ++ (⟨#[41, 59, 10]⟩ : ByteArray)) ++ (((⟨#[118, 97, 114, 32]⟩ : ByteArray) ++ t172) ++ (⟨#[59, 10]⟩ : ByteArray))) a0_0 l0_1 l0_2 l0_3 l0_4) else (none)) else (none)) else (none)) = some r := H
                  have A17 := Aside0.mk A170
                  clear A170
                  by_cases c18 : 4 + t172.size ≤ 9223372036854775807
                  · rw [if_pos c18] at H
                    have c18b0 := eq_true c18
                    have c18b1 : decide (4 + t172.size ≤ 9223372036854775807) = true := decide_eq_true c18
                    try have c18b2 : (9223372036854775807 < 4 + t172.size) = False := eq_false (Nat.not_lt.2 c18)
                    by_cases c19 : ((⟨#[118, 97, 114, 32]⟩ : ByteArray) ++ t172).size + 2 ≤ 9223372036854775807
                    · rw [if_pos c19] at H
                      have c19b0 := eq_true c19
                      have c19b1 : decide (((⟨#[118, 97, 114, 32]⟩ : ByteArray) ++ t172).size + 2 ≤ 9223372036854775807) = true := decide_eq_true c19
                      try have c19b2 : (9223372036854775807 < ((⟨#[118, 97, 114, 32]⟩ : ByteArray) ++ t172).size + 2) = False := eq_false (Nat.not_lt.2 c19)
                      (try (have c19b4 := c19b2; simp only [ByteArray.size_append, show (⟨#[118, 97, 114, 32]⟩ : ByteArray).size = 4 from rfl] at c19b4))
                      by_cases c20 : (((((((⟨#[110, 111, 100, 101, 32]⟩ : ByteArray) ++ a0_0) ++ (⟨#[40]⟩ : ByteArray)) ++ t170) ++ (⟨#[41, 32, 114, 101, 116, 117, 114, 110, 115, 32, 40]⟩ : ByteArray)) ++ t171) ++ (⟨#[41, 59, 10]⟩ : ByteArray)).size + (((⟨#[118, 97, 114, 32]⟩ : ByteArray) ++ t172) ++ (⟨#[59, 10]⟩ : ByteArray)).size ≤ 9223372036854775807
                      · rw [if_pos c20] at H
                        have c20b0 := eq_true c20
                        have c20b1 : decide ((((((((⟨#[110, 111, 100, 101, 32]⟩ : ByteArray) ++ a0_0) ++ (⟨#[40]⟩ : ByteArray)) ++ t170) ++ (⟨#[41, 32, 114, 101, 116, 117, 114, 110, 115, 32, 40]⟩ : ByteArray)) ++ t171) ++ (⟨#[41, 59, 10]⟩ : ByteArray)).size + (((⟨#[118, 97, 114, 32]⟩ : ByteArray) ++ t172) ++ (⟨#[59, 10]⟩ : ByteArray)).size ≤ 9223372036854775807) = true := decide_eq_true c20
                        try have c20b2 : (9223372036854775807 < (((((((⟨#[110, 111, 100, 101, 32]⟩ : ByteArray) ++ a0_0) ++ (⟨#[40]⟩ : ByteArray)) ++ t170) ++ (⟨#[41, 32, 114, 101, 116, 117, 114, 110, 115, 32, 40]⟩ : ByteArray)) ++ t171) ++ (⟨#[41, 59, 10]⟩ : ByteArray)).size + (((⟨#[118, 97, 114, 32]⟩ : ByteArray) ++ t172) ++ (⟨#[59, 10]⟩ : ByteArray)).size) = False := eq_false (Nat.not_lt.2 c20)
                        (try (have c20b4 := c20b2; simp only [ByteArray.size_append, show (⟨#[110, 111, 100, 101, 32]⟩ : ByteArray).size = 5 from rfl, show (⟨#[40]⟩ : ByteArray).size = 1 from rfl, show (⟨#[41, 32, 114, 101, 116, 117, 114, 110, 115, 32, 40]⟩ : ByteArray).size = 11 from rfl, show (⟨#[41, 59, 10]⟩ : ByteArray).size = 3 from rfl, show (⟨#[118, 97, 114, 32]⟩ : ByteArray).size = 4 from rfl, show (⟨#[59, 10]⟩ : ByteArray).size = 2 from rfl] at c20b4))
                        have H' := Aside0.mk H
                        clear H
                        have hcz21_0 : w14.cell? ⟨gb169, 0, none⟩ = some (.string a0_0) := (blk_cell BK169.out 0).trans rfl
                        have hcz21_1 : w14.cell? ⟨gb169, 1, none⟩ = some (.slice A0_1 l0_1.length c0_1) := (blk_cell BK169.out 1).trans rfl
                        have hcz21_2 : w14.cell? ⟨gb169, 2, none⟩ = some (.slice A0_2 l0_2.length c0_2) := (blk_cell BK169.out 2).trans rfl
                        have hcz21_3 : w14.cell? ⟨gb169, 3, none⟩ = some (.slice A0_3 l0_3.length c0_3) := (blk_cell BK169.out 3).trans rfl
                        have hcz21_4 : w14.cell? ⟨gb169, 4, none⟩ = some (.slice A0_4 l0_4.length c0_4) := (blk_cell BK169.out 4).trans rfl
                        have hfz21_0 := blk_frozen BK169.out 0
                        have hfz21_1 := blk_frozen BK169.out 1
                        have hfz21_2 := blk_frozen BK169.out 2
                        have hfz21_3 := blk_frozen BK169.out 3
                        have hfz21_4 := blk_frozen BK169.out 4
                        go_wp2_with (first | ((with_reducible refine gate_callee (f := 42) rfl ?_); refine goesL_ (some 27) rfl rfl Tryd.func42 (by kernel_rfl) rfl #[.slice A0_3 l0_3.length c0_3] rfl (by (try simp only [List.map_toArray, List.map_cons, List.map_nil]); first | done | rfl | (simp only [List.length_drop, List.length_take]; rfl)) ?_; (with_reducible refine (show_decls.calls k _ _ l0_3 t172 _ ?side1 ?side2 A17.out).mono ?_); (case side1 => repeat (first | exact (Kd.C_below HR0_3.out HB.out) | (with_reducible refine Kd.C_alloc ?_ _) | (with_reducible refine Kd.C_drewN ?_ _) | (with_reducible refine Kd.C_drew ?_))); (case side2 => exact HC0_3.out); rintro e w22 ⟨rfl, hb⟩; refine ⟨_, rfl, ?_⟩; have n0_ := Aside0.mk (blk_below (g := gb169) (o := .cells #[.string a0_0, .slice A0_1 l0_1.length c0_1, .slice A0_2 l0_2.length c0_2, .slice A0_3 l0_3.length c0_3, .slice A0_4 l0_4.length c0_4] 36 (0, 0)) (by (with_reducible repeat (first | refine blk_drewN ?_ _ | refine blk_drew ?_ | refine blk_alloc ?_ _)); exact BK169.out) hb); have n1_ := Aside0.mk (below_step (by repeat (first | (with_reducible first | exact HB.out | apply below_alloc | apply pw_below_drewN | apply below_drew1 | refine below_set ?_ GE169.out) | exact HB.out)) hb); clear BK169; clear HB; have BK169 := n0_; have HB := n1_; clear n0_ n1_; (try clear hb); (try clear hb2); (try clear hk); (try clear hi)))
                        all_goals (try exact absurd (of_eq_true c16p1) (by assumption))
                        go_meet
                        case rel => exact ⟨_, ((((((((⟨#[110, 111, 100, 101, 32]⟩ : ByteArray) ++ a0_0) ++ (⟨#[40]⟩ : ByteArray)) ++ t170) ++ (⟨#[41, 32, 114, 101, 116, 117, 114, 110, 115, 32, 40]⟩ : ByteArray)) ++ t171) ++ (⟨#[41, 59, 10]⟩ : ByteArray)) ++ (((⟨#[118, 97, 114, 32]⟩ : ByteArray) ++ t172) ++ (⟨#[59, 10]⟩ : ByteArray))), (by first | rfl | (simp; done) | (simp [*]; done)), H', ⟨by first | omega | exact Nat.le_refl _⟩, ⟨by (with_reducible repeat (first | refine blk_drewN ?_ _ | refine blk_drew ?_ | refine blk_alloc ?_ _)); exact BK169.out⟩, ⟨by repeat (first | (with_reducible first | exact HB.out | apply below_alloc | apply pw_below_drewN | apply below_drew1 | refine below_set ?_ GE169.out) | exact HB.out)⟩⟩
                      · rw [if_neg c20] at H
                        exact absurd H (by simp)
                    · rw [if_neg c19] at H
                      exact absurd H (by simp)
                  · rw [if_neg c18] at H
                    exact absurd H (by simp)
                · rw [if_neg c16] at H
                  have c16b0 : decide (0 < (l0_3.length : Int)) = false := decide_eq_false c16
                  have c16b1 : decide (0 < l0_3.length) = false := decide_eq_false (by omega)
                  clear c16
                  have c16p1 := eq_false (of_decide_eq_false c16b1)
                  (first | rw [c16b0] | (simp only [i64_w, i32_w]; rw [c16b0]) | skip)
                  have H' := Aside0.mk H
                  clear H
                  go_wp2
                  all_goals (try exact absurd (of_eq_true c16p1) (by assumption))
                  all_goals (try exact absurd (by assumption) (of_eq_false c16p1))
                  go_meet
                  case rel => exact ⟨_, (((((((⟨#[110, 111, 100, 101, 32]⟩ : ByteArray) ++ a0_0) ++ (⟨#[40]⟩ : ByteArray)) ++ t170) ++ (⟨#[41, 32, 114, 101, 116, 117, 114, 110, 115, 32, 40]⟩ : ByteArray)) ++ t171) ++ (⟨#[41, 59, 10]⟩ : ByteArray)), (by first | rfl | (simp; done) | (simp [*]; done)), H', ⟨by first | omega | exact Nat.le_refl _⟩, ⟨by (with_reducible repeat (first | refine blk_drewN ?_ _ | refine blk_drew ?_ | refine blk_alloc ?_ _)); exact BK169.out⟩, ⟨by repeat (first | (with_reducible first | exact HB.out | apply below_alloc | apply pw_below_drewN | apply below_drew1 | refine below_set ?_ GE169.out) | exact HB.out)⟩⟩
              case rest =>
                clear HC10
                try clear c1
                try clear p1
                try clear c2
                try clear c2b0
                try clear c2b1
                try clear c2b2
                try clear p2
                try clear c3
                try clear c3b0
                try clear c3b1
                try clear c3b2
                try clear c4
                try clear c5
                try clear c5b0
                try clear c5b1
                try clear c5b2
                try clear c6
                try clear c6b0
                try clear c6b1
                try clear c6b2
                try clear c8
                try clear c8b0
                try clear c8b1
                try clear c8b2
                try clear c9
                try clear c9b0
                try clear c9b1
                try clear c9b2
                try clear c13
                try clear c16
                try clear c16b0
                try clear c16b1
                try clear c18
                try clear c18b0
                try clear c18b1
                try clear c18b2
                try clear c19
                try clear c19b0
                try clear c19b1
                try clear c19b2
                try clear c20
                try clear c20b0
                try clear c20b1
                try clear c20b2
                try clear hcz15_0
                try clear hcz15_1
                try clear hcz15_2
                try clear hcz15_3
                try clear hcz15_4
                try clear hcz21_0
                try clear hcz21_1
                try clear hcz21_2
                try clear hcz21_3
                try clear hcz21_4
                try clear hfz15_0
                try clear hfz15_1
                try clear hfz15_2
                try clear hfz15_3
                try clear hfz15_4
                try clear hfz21_0
                try clear hfz21_1
                try clear hfz21_2
                try clear hfz21_3
                try clear hfz21_4
                obtain ⟨kq, x3_9, rfl, HA, HJ9, BK169, HB⟩ := hcut
                cases kq with
                | zero => exact absurd HA.out (by simp [show_Node.j0])
                | succ kj9 =>
                  have H := HA.out
                  clear HA
                  simp only [show_Node.j0] at H
                  by_cases c23 : x3_9.size + 4 ≤ 9223372036854775807
                  · rw [if_pos c23] at H
                    have c23b0 := eq_true c23
                    have c23b1 : decide (x3_9.size + 4 ≤ 9223372036854775807) = true := decide_eq_true c23
                    try have c23b2 : (9223372036854775807 < x3_9.size + 4) = False := eq_false (Nat.not_lt.2 c23)
                    have H' := Aside0.mk H
                    clear H
                    have hcz24_0 : wc.cell? ⟨gb169, 0, none⟩ = some (.string a0_0) := (blk_cell BK169.out 0).trans rfl
                    have hcz24_1 : wc.cell? ⟨gb169, 1, none⟩ = some (.slice A0_1 l0_1.length c0_1) := (blk_cell BK169.out 1).trans rfl
                    have hcz24_2 : wc.cell? ⟨gb169, 2, none⟩ = some (.slice A0_2 l0_2.length c0_2) := (blk_cell BK169.out 2).trans rfl
                    have hcz24_3 : wc.cell? ⟨gb169, 3, none⟩ = some (.slice A0_3 l0_3.length c0_3) := (blk_cell BK169.out 3).trans rfl
                    have hcz24_4 : wc.cell? ⟨gb169, 4, none⟩ = some (.slice A0_4 l0_4.length c0_4) := (blk_cell BK169.out 4).trans rfl
                    have hfz24_0 := blk_frozen BK169.out 0
                    have hfz24_1 := blk_frozen BK169.out 1
                    have hfz24_2 := blk_frozen BK169.out 2
                    have hfz24_3 := blk_frozen BK169.out 3
                    have hfz24_4 := blk_frozen BK169.out 4
                    go_wp2
                    go_loopg [3, 36] kj9 (fun kq v3 v36 w' => ∃ (x3_2 : ByteArray) (x36_2 : Int), v3 = .string x3_2 ∧ v36 = .int .i64 x36_2 ∧ Aside0 (show_Node.l0 kq x3_2 l0_4 (l0_4.length : Int) x36_2 = some r) ∧ Aside0 (kq ≤ kj9) ∧ Aside0 (w'.heap[gb169]? = some (.cells #[.string a0_0, (.slice A0_1 l0_1.length c0_1), (.slice A0_2 l0_2.length c0_2), (.slice A0_3 l0_3.length c0_3), (.slice A0_4 l0_4.length c0_4)] 36 (0, 0))) ∧ Aside0 (Below w.heap.size w w'))
                    case atStart => exact ⟨(x3_9 ++ (⟨#[108, 101, 116, 10]⟩ : ByteArray)), (0), (by first | rfl | (simp; done) | (simp [*]; done)), (by first | rfl | (simp; done) | (simp [*]; done)), H', ⟨Nat.le_refl _⟩, ⟨by (with_reducible repeat (first | refine blk_drewN ?_ _ | refine blk_drew ?_ | refine blk_alloc ?_ _)); exact BK169.out⟩, ⟨by repeat (first | (with_reducible first | exact HB.out | apply below_alloc | apply pw_below_drewN | apply below_drew1 | refine below_set ?_ GE169.out) | exact HB.out)⟩⟩
                    case round =>
                      clear H'
                      try clear c1
                      try clear p1
                      try clear c2
                      try clear c2b0
                      try clear c2b1
                      try clear c2b2
                      try clear p2
                      try clear c3
                      try clear c3b0
                      try clear c3b1
                      try clear c3b2
                      try clear c4
                      try clear c5
                      try clear c5b0
                      try clear c5b1
                      try clear c5b2
                      try clear c6
                      try clear c6b0
                      try clear c6b1
                      try clear c6b2
                      try clear c8
                      try clear c8b0
                      try clear c8b1
                      try clear c8b2
                      try clear c9
                      try clear c9b0
                      try clear c9b1
                      try clear c9b2
                      try clear c13
                      try clear c16
                      try clear c16b0
                      try clear c16b1
                      try clear c18
                      try clear c18b0
                      try clear c18b1
                      try clear c18b2
                      try clear c19
                      try clear c19b0
                      try clear c19b1
                      try clear c19b2
                      try clear c20
                      try clear c20b0
                      try clear c20b1
                      try clear c20b2
                      try clear c23
                      try clear c23b0
                      try clear c23b1
                      try clear c23b2
                      try clear hcz15_0
                      try clear hcz15_1
                      try clear hcz15_2
                      try clear hcz15_3
                      try clear hcz15_4
                      try clear hcz21_0
                      try clear hcz21_1
                      try clear hcz21_2
                      try clear hcz21_3
                      try clear hcz21_4
                      try clear hcz24_0
                      try clear hcz24_1
                      try clear hcz24_2
                      try clear hcz24_3
                      try clear hcz24_4
                      try clear hfz15_0
                      try clear hfz15_1
                      try clear hfz15_2
                      try clear hfz15_3
                      try clear hfz15_4
                      try clear hfz21_0
                      try clear hfz21_1
                      try clear hfz21_2
                      try clear hfz21_3
                      try clear hfz21_4
                      try clear hfz24_0
                      try clear hfz24_1
                      try clear hfz24_2
                      try clear hfz24_3
                      try clear hfz24_4
                      try clear p1
                      try clear p2
                      obtain ⟨x3_2, x36_2, rfl, rfl, HA, HK2, BK169, HB⟩ := hrel
                      cases gk with
                      | zero => exact absurd HA.out (by simp [show_Node.l0])
                      | succ k2 =>
                        have H := HA.out
                        clear HA
                        simp only [show_Node.l0] at H
                        by_cases c25 : x36_2 < (l0_4.length : Int)
                        · rw [if_pos c25] at H
                          have c25b0 : decide (x36_2 < (l0_4.length : Int)) = true := decide_eq_true c25
                          clear c25
                          by_cases c26 : 0 ≤ x36_2
                          · rw [if_pos c26] at H
                            have c26b0 : decide (0 ≤ x36_2) = true := decide_eq_true c26
                            clear c26
                            by_cases c27 : x36_2 < (l0_4.length : Int)
                            · rw [if_pos c27] at H
                              have c27b0 : decide (x36_2 < (l0_4.length : Int)) = true := decide_eq_true c27
                              clear c27
                              replace H := Option.bind_eq_some_iff.mp H
                              obtain ⟨t175, A280, H⟩ := H
                              replace H : (if 2 + t175.size ≤ 9223372036854775807 then (if ((⟨#[32, 32]⟩ : ByteArray) ++ t175).size + 2 ≤ 9223372036854775807 then (if x3_2.size + (((⟨#[32, 32]⟩ : ByteArray) ++ t175) ++ (⟨#[59, 10]⟩ : ByteArray)).size ≤ 9223372036854775807 then (show_Node.l0 k2 (x3_2 ++ (((⟨#[32, 32]⟩ : ByteArray) ++ t175) ++ (⟨#[59, 10]⟩ : ByteArray))) l0_4 (l0_4.length : Int) (wrap64 (x36_2 + 1))) else (none)) else (none)) else (none)) = some r := H
                              have A28 := Aside0.mk A280
                              clear A280
                              by_cases c29 : 2 + t175.size ≤ 9223372036854775807
                              · rw [if_pos c29] at H
                                have c29b0 := eq_true c29
                                have c29b1 : decide (2 + t175.size ≤ 9223372036854775807) = true := decide_eq_true c29
                                try have c29b2 : (9223372036854775807 < 2 + t175.size) = False := eq_false (Nat.not_lt.2 c29)
                                by_cases c30 : ((⟨#[32, 32]⟩ : ByteArray) ++ t175).size + 2 ≤ 9223372036854775807
                                · rw [if_pos c30] at H
                                  have c30b0 := eq_true c30
                                  have c30b1 : decide (((⟨#[32, 32]⟩ : ByteArray) ++ t175).size + 2 ≤ 9223372036854775807) = true := decide_eq_true c30
                                  try have c30b2 : (9223372036854775807 < ((⟨#[32, 32]⟩ : ByteArray) ++ t175).size + 2) = False := eq_false (Nat.not_lt.2 c30)
                                  (try (have c30b4 := c30b2; simp only [ByteArray.size_append, show (⟨#[32, 32]⟩ : ByteArray).size = 2 from rfl] at c30b4))
                                  by_cases c31 : x3_2.size + (((⟨#[32, 32]⟩ : ByteArray) ++ t175) ++ (⟨#[59, 10]⟩ : ByteArray)).size ≤ 9223372036854775807
                                  · rw [if_pos c31] at H
                                    have c31b0 := eq_true c31
                                    have c31b1 : decide (x3_2.size + (((⟨#[32, 32]⟩ : ByteArray) ++ t175) ++ (⟨#[59, 10]⟩ : ByteArray)).size ≤ 9223372036854775807) = true := decide_eq_true c31
                                    try have c31b2 : (9223372036854775807 < x3_2.size + (((⟨#[32, 32]⟩ : ByteArray) ++ t175) ++ (⟨#[59, 10]⟩ : ByteArray)).size) = False := eq_false (Nat.not_lt.2 c31)
                                    (try (have c31b4 := c31b2; simp only [ByteArray.size_append, show (⟨#[32, 32]⟩ : ByteArray).size = 2 from rfl, show (⟨#[59, 10]⟩ : ByteArray).size = 2 from rfl] at c31b4))
                                    have H' := Aside0.mk H
                                    clear H
                                    have p173 : 0 ≤ (x36_2 : Int) := of_decide_eq_true (by first | (with_reducible assumption) | assumption)
                                    have q173 : x36_2 < (l0_4.length : Int) := of_decide_eq_true (by first | (with_reducible assumption) | assumption)
                                    obtain ⟨ad173, A173_1, c173_1, A173_6, c173_6, A173_8, c173_8, e173, hx173_0, hx173_1, hx173_2, hx173_3, hx173_4, hx173_5, hx173_6, hx173_7, hx173_8, hx173_9, hl173_1, hi173_1, hl173_6, hi173_6, hl173_8, hi173_8⟩ := at_T49 HR0_4.out x36_2 p173 q173
                                    cases e173
                                    replace hx173_0 := (HB.out.cell (World.block_lt_of_cell? w _ hx173_0)).trans hx173_0
                                    replace hx173_1 := (HB.out.cell (World.block_lt_of_cell? w _ hx173_1)).trans hx173_1
                                    replace hx173_2 := (HB.out.cell (World.block_lt_of_cell? w _ hx173_2)).trans hx173_2
                                    replace hx173_3 := (HB.out.cell (World.block_lt_of_cell? w _ hx173_3)).trans hx173_3
                                    replace hx173_4 := (HB.out.cell (World.block_lt_of_cell? w _ hx173_4)).trans hx173_4
                                    replace hx173_5 := (HB.out.cell (World.block_lt_of_cell? w _ hx173_5)).trans hx173_5
                                    replace hx173_6 := (HB.out.cell (World.block_lt_of_cell? w _ hx173_6)).trans hx173_6
                                    replace hx173_7 := (HB.out.cell (World.block_lt_of_cell? w _ hx173_7)).trans hx173_7
                                    replace hx173_8 := (HB.out.cell (World.block_lt_of_cell? w _ hx173_8)).trans hx173_8
                                    replace hx173_9 := (HB.out.cell (World.block_lt_of_cell? w _ hx173_9)).trans hx173_9
                                    have HR173_1 := Aside0.mk hi173_1
                                    have HC173_1 := Aside0.mk hl173_1
                                    clear hi173_1 hl173_1
                                    have HR173_6 := Aside0.mk hi173_6
                                    have HC173_6 := Aside0.mk hl173_6
                                    clear hi173_6 hl173_6
                                    have HR173_8 := Aside0.mk hi173_8
                                    have HC173_8 := Aside0.mk hl173_8
                                    clear hi173_8 hl173_8
                                    replace p173 := eq_true p173
                                    replace q173 := eq_true q173
                                    go_wp2_with (first | ((with_reducible refine gate_dst (N := 5) rfl ?_); refine box_event ?hg (N := 5) ?hd (cs := #[.int .i64 0, .slice none 0 0, .int .i64 0, .int .i64 0, .int .i64 0, .string (⟨#[]⟩ : ByteArray), .slice none 0 0, .string (⟨#[]⟩ : ByteArray), .slice none 0 0, .string (⟨#[]⟩ : ByteArray)]) (t := 49) ?hr ?_; (case hd => rfl); (case hg => rfl); (case hr => first | (go_simp; done) | (go_simp; rfl)); intro gb174 hg w32 hbox hb; have n0_ := Aside0.mk (blk_below (g := gb169) (o := .cells #[.string a0_0, .slice A0_1 l0_1.length c0_1, .slice A0_2 l0_2.length c0_2, .slice A0_3 l0_3.length c0_3, .slice (some ad173) l0_4.length c0_4] 36 (0, 0)) (by (with_reducible repeat (first | refine blk_drewN ?_ _ | refine blk_drew ?_ | refine blk_alloc ?_ _)); exact BK169.out) hb); have n1_ := Aside0.mk (below_step (by repeat (first | (with_reducible first | exact HB.out | apply below_alloc | apply pw_below_drewN | apply below_drew1 | refine below_set ?_ GE169.out) | exact HB.out)) hb); have n2_ := Aside0.mk (hbox); have n3_ := Aside0.mk ((by rw [hg]; exact (below_size (by repeat (first | (with_reducible first | exact HB.out | apply below_alloc | apply pw_below_drewN | apply below_drew1 | refine below_set ?_ GE169.out) | exact HB.out))) : w.heap.size ≤ gb174)); have n4_ := Aside0.mk ((by rw [hg]; exact (below_size (by repeat (first | (with_reducible first | exact HB.out | apply below_alloc | apply pw_below_drewN | apply below_drew1 | refine below_set ?_ GE169.out) | exact HB.out))) : w.heap.size ≤ gb174)); have n5_ := Aside0.mk ((by rw [hg]; exact Nat.ne_of_lt (blk_lt (g := gb169) (o := .cells #[.string a0_0, .slice A0_1 l0_1.length c0_1, .slice A0_2 l0_2.length c0_2, .slice A0_3 l0_3.length c0_3, .slice (some ad173) l0_4.length c0_4] 36 (0, 0)) (by (with_reducible repeat (first | refine blk_drewN ?_ _ | refine blk_drew ?_ | refine blk_alloc ?_ _)); exact BK169.out)) : gb169 ≠ gb174)); have n6_ := Aside0.mk ((by rw [hg]; exact Nat.ne_of_gt (blk_lt (g := gb169) (o := .cells #[.string a0_0, .slice A0_1 l0_1.length c0_1, .slice A0_2 l0_2.length c0_2, .slice A0_3 l0_3.length c0_3, .slice (some ad173) l0_4.length c0_4] 36 (0, 0)) (by (with_reducible repeat (first | refine blk_drewN ?_ _ | refine blk_drew ?_ | refine blk_alloc ?_ _)); exact BK169.out)) : gb174 ≠ gb169)); clear BK169; clear HB; have BK169 := n0_; have HB := n1_; have BK174 := n2_; have GW174 := n3_; have GE174 := n4_; have NB169_174 := n5_; have NB174_169 := n6_; clear n0_ n1_ n2_ n3_ n4_ n5_ n6_; clear hb hbox hg; have hnb33 := NB174_169.out; have hnc33 := NB169_174.out; have hcz34_0 : w32.cell? ⟨gb174, 0, none⟩ = some (.int .i64 0) := (blk_cell BK174.out 0).trans rfl; have hcz34_1 : w32.cell? ⟨gb174, 1, none⟩ = some (.slice none 0 0) := (blk_cell BK174.out 1).trans rfl; have hcz34_2 : w32.cell? ⟨gb174, 2, none⟩ = some (.int .i64 0) := (blk_cell BK174.out 2).trans rfl; have hcz34_3 : w32.cell? ⟨gb174, 3, none⟩ = some (.int .i64 0) := (blk_cell BK174.out 3).trans rfl; have hcz34_4 : w32.cell? ⟨gb174, 4, none⟩ = some (.int .i64 0) := (blk_cell BK174.out 4).trans rfl; have hcz34_5 : w32.cell? ⟨gb174, 5, none⟩ = some (.string (⟨#[]⟩ : ByteArray)) := (blk_cell BK174.out 5).trans rfl; have hcz34_6 : w32.cell? ⟨gb174, 6, none⟩ = some (.slice none 0 0) := (blk_cell BK174.out 6).trans rfl; have hcz34_7 : w32.cell? ⟨gb174, 7, none⟩ = some (.string (⟨#[]⟩ : ByteArray)) := (blk_cell BK174.out 7).trans rfl; have hcz34_8 : w32.cell? ⟨gb174, 8, none⟩ = some (.slice none 0 0) := (blk_cell BK174.out 8).trans rfl; have hcz34_9 : w32.cell? ⟨gb174, 9, none⟩ = some (.string (⟨#[]⟩ : ByteArray)) := (blk_cell BK174.out 9).trans rfl; have hfz34_0 := blk_frozen BK174.out 0; have hfz34_1 := blk_frozen BK174.out 1; have hfz34_2 := blk_frozen BK174.out 2; have hfz34_3 := blk_frozen BK174.out 3; have hfz34_4 := blk_frozen BK174.out 4; have hfz34_5 := blk_frozen BK174.out 5; have hfz34_6 := blk_frozen BK174.out 6; have hfz34_7 := blk_frozen BK174.out 7; have hfz34_8 := blk_frozen BK174.out 8; have hfz34_9 := blk_frozen BK174.out 9) | ((with_reducible refine gate_callee (f := 18) rfl ?_); refine goesL_ (some 42) rfl rfl Tryd.func18 (by kernel_rfl) rfl #[.agg #[.int .i64 ((rd_T49 l0_4 x36_2).f0), .slice A173_1 ((rd_T49 l0_4 x36_2).f1).length c173_1, .int .i64 ((rd_T49 l0_4 x36_2).f2.f0), .int .i64 ((rd_T49 l0_4 x36_2).f2.f1), .int .i64 ((rd_T49 l0_4 x36_2).f2.f2), .string ((rd_T49 l0_4 x36_2).f2.f3), .slice A173_6 ((rd_T49 l0_4 x36_2).f2.f4).length c173_6, .string ((rd_T49 l0_4 x36_2).f3), .slice A173_8 ((rd_T49 l0_4 x36_2).f4).length c173_8, .string ((rd_T49 l0_4 x36_2).f5)]] rfl (by (try simp only [List.map_toArray, List.map_cons, List.map_nil]); first | done | rfl | (simp only [List.length_drop, List.length_take]; rfl)) ?_; (with_reducible refine (show_Equation.calls k2 ((rd_T49 l0_4 x36_2).f0) _ _ ((rd_T49 l0_4 x36_2).f1) ((rd_T49 l0_4 x36_2).f2.f0) ((rd_T49 l0_4 x36_2).f2.f1) ((rd_T49 l0_4 x36_2).f2.f2) ((rd_T49 l0_4 x36_2).f2.f3) _ _ ((rd_T49 l0_4 x36_2).f2.f4) ((rd_T49 l0_4 x36_2).f3) _ _ ((rd_T49 l0_4 x36_2).f4) ((rd_T49 l0_4 x36_2).f5) t175 _ ?side1 ?side2 ?side3 ?side4 ?side5 ?side6 ?side7 A28.out).mono ?_); (case side1 => exact Kd.C_below HR173_1.out (by repeat (first | (with_reducible first | exact HB.out | apply below_alloc | apply pw_below_drewN | apply below_drew1 | refine below_set ?_ GE169.out | refine below_set ?_ GE174.out) | exact HB.out))); (case side2 => exact HC173_1.out); (case side3 => exact Kd.C_below HR173_6.out (by repeat (first | (with_reducible first | exact HB.out | apply below_alloc | apply pw_below_drewN | apply below_drew1 | refine below_set ?_ GE169.out | refine below_set ?_ GE174.out) | exact HB.out))); (case side4 => exact HC173_6.out); (case side5 => exact Kd.C_below HR173_8.out (by repeat (first | (with_reducible first | exact HB.out | apply below_alloc | apply pw_below_drewN | apply below_drew1 | refine below_set ?_ GE169.out | refine below_set ?_ GE174.out) | exact HB.out))); (case side6 => exact HC173_8.out); (case side7 => exact GlobW.below HG.out (by repeat (first | (with_reducible first | exact HB.out | apply below_alloc | apply pw_below_drewN | apply below_drew1 | refine below_set ?_ GE169.out | refine below_set ?_ GE174.out) | exact HB.out))); rintro e w35 ⟨rfl, hb⟩; refine ⟨_, rfl, ?_⟩; have n0_ := Aside0.mk (blk_below (g := gb169) (o := .cells #[.string a0_0, .slice A0_1 l0_1.length c0_1, .slice A0_2 l0_2.length c0_2, .slice A0_3 l0_3.length c0_3, .slice (some ad173) l0_4.length c0_4] 36 (0, 0)) (by (with_reducible repeat (first | refine blk_drewN ?_ _ | refine blk_drew ?_ | refine blk_alloc ?_ _)); refine blk_far ?_ NB169_174.out _; (with_reducible repeat (first | refine blk_drewN ?_ _ | refine blk_drew ?_ | refine blk_alloc ?_ _)); refine blk_far ?_ NB169_174.out _; (with_reducible repeat (first | refine blk_drewN ?_ _ | refine blk_drew ?_ | refine blk_alloc ?_ _)); refine blk_far ?_ NB169_174.out _; (with_reducible repeat (first | refine blk_drewN ?_ _ | refine blk_drew ?_ | refine blk_alloc ?_ _)); refine blk_far ?_ NB169_174.out _; (with_reducible repeat (first | refine blk_drewN ?_ _ | refine blk_drew ?_ | refine blk_alloc ?_ _)); refine blk_far ?_ NB169_174.out _; (with_reducible repeat (first | refine blk_drewN ?_ _ | refine blk_drew ?_ | refine blk_alloc ?_ _)); refine blk_far ?_ NB169_174.out _; (with_reducible repeat (first | refine blk_drewN ?_ _ | refine blk_drew ?_ | refine blk_alloc ?_ _)); refine blk_far ?_ NB169_174.out _; (with_reducible repeat (first | refine blk_drewN ?_ _ | refine blk_drew ?_ | refine blk_alloc ?_ _)); refine blk_far ?_ NB169_174.out _; (with_reducible repeat (first | refine blk_drewN ?_ _ | refine blk_drew ?_ | refine blk_alloc ?_ _)); refine blk_far ?_ NB169_174.out _; (with_reducible repeat (first | refine blk_drewN ?_ _ | refine blk_drew ?_ | refine blk_alloc ?_ _)); refine blk_far ?_ NB169_174.out _; (with_reducible repeat (first | refine blk_drewN ?_ _ | refine blk_drew ?_ | refine blk_alloc ?_ _)); exact BK169.out) hb); have n1_ := Aside0.mk (blk_below (g := gb174) (o := .cells #[.int .i64 ((rd_T49 l0_4 x36_2).f0), .slice A173_1 ((rd_T49 l0_4 x36_2).f1).length c173_1, .int .i64 ((rd_T49 l0_4 x36_2).f2.f0), .int .i64 ((rd_T49 l0_4 x36_2).f2.f1), .int .i64 ((rd_T49 l0_4 x36_2).f2.f2), .string ((rd_T49 l0_4 x36_2).f2.f3), .slice A173_6 ((rd_T49 l0_4 x36_2).f2.f4).length c173_6, .string ((rd_T49 l0_4 x36_2).f3), .slice A173_8 ((rd_T49 l0_4 x36_2).f4).length c173_8, .string ((rd_T49 l0_4 x36_2).f5)] 49 (0, 0)) (by (with_reducible repeat (first | refine blk_drewN ?_ _ | refine blk_drew ?_ | refine blk_alloc ?_ _)); refine blk_put (cs := #[.int .i64 ((rd_T49 l0_4 x36_2).f0), .slice A173_1 ((rd_T49 l0_4 x36_2).f1).length c173_1, .int .i64 ((rd_T49 l0_4 x36_2).f2.f0), .int .i64 ((rd_T49 l0_4 x36_2).f2.f1), .int .i64 ((rd_T49 l0_4 x36_2).f2.f2), .string ((rd_T49 l0_4 x36_2).f2.f3), .slice A173_6 ((rd_T49 l0_4 x36_2).f2.f4).length c173_6, .string ((rd_T49 l0_4 x36_2).f3), .slice A173_8 ((rd_T49 l0_4 x36_2).f4).length c173_8, .string (⟨#[]⟩ : ByteArray)]) ?_ 9 _ rfl; (with_reducible repeat (first | refine blk_drewN ?_ _ | refine blk_drew ?_ | refine blk_alloc ?_ _)); refine blk_put (cs := #[.int .i64 ((rd_T49 l0_4 x36_2).f0), .slice A173_1 ((rd_T49 l0_4 x36_2).f1).length c173_1, .int .i64 ((rd_T49 l0_4 x36_2).f2.f0), .int .i64 ((rd_T49 l0_4 x36_2).f2.f1), .int .i64 ((rd_T49 l0_4 x36_2).f2.f2), .string ((rd_T49 l0_4 x36_2).f2.f3), .slice A173_6 ((rd_T49 l0_4 x36_2).f2.f4).length c173_6, .string ((rd_T49 l0_4 x36_2).f3), .slice none 0 0, .string (⟨#[]⟩ : ByteArray)]) ?_ 8 _ rfl; (with_reducible repeat (first | refine blk_drewN ?_ _ | refine blk_drew ?_ | refine blk_alloc ?_ _)); refine blk_put (cs := #[.int .i64 ((rd_T49 l0_4 x36_2).f0), .slice A173_1 ((rd_T49 l0_4 x36_2).f1).length c173_1, .int .i64 ((rd_T49 l0_4 x36_2).f2.f0), .int .i64 ((rd_T49 l0_4 x36_2).f2.f1), .int .i64 ((rd_T49 l0_4 x36_2).f2.f2), .string ((rd_T49 l0_4 x36_2).f2.f3), .slice A173_6 ((rd_T49 l0_4 x36_2).f2.f4).length c173_6, .string (⟨#[]⟩ : ByteArray), .slice none 0 0, .string (⟨#[]⟩ : ByteArray)]) ?_ 7 _ rfl; (with_reducible repeat (first | refine blk_drewN ?_ _ | refine blk_drew ?_ | refine blk_alloc ?_ _)); refine blk_put (cs := #[.int .i64 ((rd_T49 l0_4 x36_2).f0), .slice A173_1 ((rd_T49 l0_4 x36_2).f1).length c173_1, .int .i64 ((rd_T49 l0_4 x36_2).f2.f0), .int .i64 ((rd_T49 l0_4 x36_2).f2.f1), .int .i64 ((rd_T49 l0_4 x36_2).f2.f2), .string ((rd_T49 l0_4 x36_2).f2.f3), .slice none 0 0, .string (⟨#[]⟩ : ByteArray), .slice none 0 0, .string (⟨#[]⟩ : ByteArray)]) ?_ 6 _ rfl; (with_reducible repeat (first | refine blk_drewN ?_ _ | refine blk_drew ?_ | refine blk_alloc ?_ _)); refine blk_put (cs := #[.int .i64 ((rd_T49 l0_4 x36_2).f0), .slice A173_1 ((rd_T49 l0_4 x36_2).f1).length c173_1, .int .i64 ((rd_T49 l0_4 x36_2).f2.f0), .int .i64 ((rd_T49 l0_4 x36_2).f2.f1), .int .i64 ((rd_T49 l0_4 x36_2).f2.f2), .string (⟨#[]⟩ : ByteArray), .slice none 0 0, .string (⟨#[]⟩ : ByteArray), .slice none 0 0, .string (⟨#[]⟩ : ByteArray)]) ?_ 5 _ rfl; (with_reducible repeat (first | refine blk_drewN ?_ _ | refine blk_drew ?_ | refine blk_alloc ?_ _)); refine blk_put (cs := #[.int .i64 ((rd_T49 l0_4 x36_2).f0), .slice A173_1 ((rd_T49 l0_4 x36_2).f1).length c173_1, .int .i64 ((rd_T49 l0_4 x36_2).f2.f0), .int .i64 ((rd_T49 l0_4 x36_2).f2.f1), .int .i64 0, .string (⟨#[]⟩ : ByteArray), .slice none 0 0, .string (⟨#[]⟩ : ByteArray), .slice none 0 0, .string (⟨#[]⟩ : ByteArray)]) ?_ 4 _ rfl; (with_reducible repeat (first | refine blk_drewN ?_ _ | refine blk_drew ?_ | refine blk_alloc ?_ _)); refine blk_put (cs := #[.int .i64 ((rd_T49 l0_4 x36_2).f0), .slice A173_1 ((rd_T49 l0_4 x36_2).f1).length c173_1, .int .i64 ((rd_T49 l0_4 x36_2).f2.f0), .int .i64 0, .int .i64 0, .string (⟨#[]⟩ : ByteArray), .slice none 0 0, .string (⟨#[]⟩ : ByteArray), .slice none 0 0, .string (⟨#[]⟩ : ByteArray)]) ?_ 3 _ rfl; (with_reducible repeat (first | refine blk_drewN ?_ _ | refine blk_drew ?_ | refine blk_alloc ?_ _)); refine blk_put (cs := #[.int .i64 ((rd_T49 l0_4 x36_2).f0), .slice A173_1 ((rd_T49 l0_4 x36_2).f1).length c173_1, .int .i64 0, .int .i64 0, .int .i64 0, .string (⟨#[]⟩ : ByteArray), .slice none 0 0, .string (⟨#[]⟩ : ByteArray), .slice none 0 0, .string (⟨#[]⟩ : ByteArray)]) ?_ 2 _ rfl; (with_reducible repeat (first | refine blk_drewN ?_ _ | refine blk_drew ?_ | refine blk_alloc ?_ _)); refine blk_put (cs := #[.int .i64 ((rd_T49 l0_4 x36_2).f0), .slice none 0 0, .int .i64 0, .int .i64 0, .int .i64 0, .string (⟨#[]⟩ : ByteArray), .slice none 0 0, .string (⟨#[]⟩ : ByteArray), .slice none 0 0, .string (⟨#[]⟩ : ByteArray)]) ?_ 1 _ rfl; (with_reducible repeat (first | refine blk_drewN ?_ _ | refine blk_drew ?_ | refine blk_alloc ?_ _)); refine blk_put (cs := #[.int .i64 0, .slice none 0 0, .int .i64 0, .int .i64 0, .int .i64 0, .string (⟨#[]⟩ : ByteArray), .slice none 0 0, .string (⟨#[]⟩ : ByteArray), .slice none 0 0, .string (⟨#[]⟩ : ByteArray)]) ?_ 0 _ rfl; (with_reducible repeat (first | refine blk_drewN ?_ _ | refine blk_drew ?_ | refine blk_alloc ?_ _)); exact BK174.out) hb); have n2_ := Aside0.mk (below_step (by repeat (first | (with_reducible first | exact HB.out | apply below_alloc | apply pw_below_drewN | apply below_drew1 | refine below_set ?_ GE169.out | refine below_set ?_ GE174.out) | exact HB.out)) hb); clear BK169; clear BK174; clear HB; have BK169 := n0_; have BK174 := n1_; have HB := n2_; clear n0_ n1_ n2_; (try clear hb); (try clear hb2); (try clear hk); (try clear hi)))
                                    go_roundg k2
                                    case measure => have := HJ9.out; have := HK2.out; omega
                                    case rel => exact ⟨(x3_2 ++ (((⟨#[32, 32]⟩ : ByteArray) ++ t175) ++ (⟨#[59, 10]⟩ : ByteArray))), (wrap64 (x36_2 + 1)), (by first | rfl | (simp; done) | (simp [*]; done)), (by first | rfl | (simp; done) | (simp [*]; done)), H', ⟨by have := HJ9.out; have := HK2.out; omega⟩, ⟨by (with_reducible repeat (first | refine blk_drewN ?_ _ | refine blk_drew ?_ | refine blk_alloc ?_ _)); exact BK169.out⟩, ⟨by repeat (first | (with_reducible first | exact HB.out | apply below_alloc | apply pw_below_drewN | apply below_drew1 | refine below_set ?_ GE169.out | refine below_set ?_ GE174.out) | exact HB.out)⟩⟩
                                  · rw [if_neg c31] at H
                                    exact absurd H (by simp)
                                · rw [if_neg c30] at H
                                  exact absurd H (by simp)
                              · rw [if_neg c29] at H
                                exact absurd H (by simp)
                            · rw [if_neg c27] at H
                              exact absurd H (by simp)
                          · rw [if_neg c26] at H
                            exact absurd H (by simp)
                        · rw [if_neg c25] at H
                          have c25b0 : decide (x36_2 < (l0_4.length : Int)) = false := decide_eq_false c25
                          clear c25
                          by_cases c36 : x3_2.size + 4 ≤ 9223372036854775807
                          · rw [if_pos c36] at H
                            have c36b0 := eq_true c36
                            have c36b1 : decide (x3_2.size + 4 ≤ 9223372036854775807) = true := decide_eq_true c36
                            try have c36b2 : (9223372036854775807 < x3_2.size + 4) = False := eq_false (Nat.not_lt.2 c36)
                            obtain rfl := Option.some.inj H
                            simp only [Option.some.injEq, Prod.mk.injEq] at H
                            obtain ⟨rfl⟩ := H
                            go_wp2
                            go_ret
                            exact ⟨by first | rfl | (simp [errW_none, errW_some] <;> rfl) | (simp [*, errW_none, errW_some] <;> rfl), by repeat (first | (with_reducible first | exact HB.out | apply below_alloc | apply pw_below_drewN | apply below_drew1 | refine below_set ?_ GE169.out) | exact HB.out)⟩
                          · rw [if_neg c36] at H
                            exact absurd H (by simp)
                  · rw [if_neg c23] at H
                    exact absurd H (by simp)
            · rw [if_neg c9] at H
              exact absurd H (by simp)
          · rw [if_neg c8] at H
            exact absurd H (by simp)
        · rw [if_neg c6] at H
          exact absurd H (by simp)
      · rw [if_neg c5] at H
        exact absurd H (by simp)
    · rw [if_neg c3] at H
      exact absurd H (by simp)
  · rw [if_neg c2] at H
    exact absurd H (by simp)

/-! ### strconv_Itoa: function 50 -/
/-- A whole number's text. -/
def strconv_Itoa.f (a0 : Int) : Option ByteArray := if -9223372036854775808 ≤ a0 ∧ a0 ≤ 9223372036854775807 then some ⟨(Lib.itoa a0).toArray⟩ else none
theorem strconv_Itoa.calls [Sent] (a0 : Int) (r : ByteArray) (w : World) (hG : GlobW w) (h : strconv_Itoa.f a0 = some r) :
    Calls Tryd.prog 50 #[.int .i64 a0] w fun e w' => e = .returned (.string r) ∧ Below w.heap.size w w' := by
  unfold strconv_Itoa.f at h
  split at h
  · rename_i hr
    obtain rfl := Option.some.inj h
    refine (Go.Proofs.Tryd.strconv_Itoa a0 hr.1 hr.2 w hG.tab).mono ?_
    rintro e w' ⟨rfl, k, os, rfl⟩
    exact ⟨rfl, Go.Lib.below_grow _ w (Nat.le_refl _) k os⟩
  · cases h

/-! ### pendulumworld_Num: function 22 -/
def pendulumworld_Num.f (a0 : Int) : Option (ByteArray) := (strconv_Itoa.f a0).bind fun t176 => (some t176)
set_option maxHeartbeats 8000000 in
set_option maxRecDepth 100000 in
theorem pendulumworld_Num.calls [Sent] (a0 : Int) (r : ByteArray) (w : World) (hG : GlobW w) (h : pendulumworld_Num.f a0 = some r) :
    Calls Tryd.prog 22 #[.int .i64 a0] w fun e w' => e = .returned (.string r) ∧ Below w.heap.size w w' := by
  have HB := Aside0.mk (Below.refl w.heap.size w)
  have HG := Aside0.mk hG
  clear hG
  have H : ((strconv_Itoa.f a0).bind fun t176 => (some t176)) = some r := h
  clear h
  replace H := Option.bind_eq_some_iff.mp H
  obtain ⟨t176, A20, H⟩ := H
  replace H : (some t176) = some r := H
  have A2 := Aside0.mk A20
  clear A20
  obtain rfl := Option.some.inj H
  simp only [Option.some.injEq, Prod.mk.injEq] at H
  obtain ⟨rfl⟩ := H
  go_enter Tryd.func22, Tryd.ntmps22
  go_wp2_with (first | ((with_reducible refine gate_callee (f := 50) rfl ?_); refine goesL_ (some 4) rfl rfl Tryd.func50 (by kernel_rfl) rfl #[.int .i64 a0] rfl (by (try simp only [List.map_toArray, List.map_cons, List.map_nil]); first | done | rfl | (simp only [List.length_drop, List.length_take]; rfl)) ?_; (with_reducible refine (strconv_Itoa.calls a0 t176 _ ?side1 A2.out).mono ?_); (case side1 => exact GlobW.below HG.out (by repeat (first | (with_reducible first | exact HB.out | apply below_alloc | apply pw_below_drewN | apply below_drew1) | exact HB.out))); rintro e w3 ⟨rfl, hb⟩; refine ⟨_, rfl, ?_⟩; have n0_ := Aside0.mk (below_step (by repeat (first | (with_reducible first | exact HB.out | apply below_alloc | apply pw_below_drewN | apply below_drew1) | exact HB.out)) hb); clear HB; have HB := n0_; clear n0_; (try clear hb); (try clear hb2); (try clear hk); (try clear hi)))
  go_ret
  exact ⟨by first | rfl | (simp [errW_none, errW_some] <;> rfl) | (simp [*, errW_none, errW_some] <;> rfl), by repeat (first | (with_reducible first | exact HB.out | apply below_alloc | apply pw_below_drewN | apply below_drew1) | exact HB.out)⟩

end Go.Proofs.YtgmnklfbmbahcaaDoor.KTShowLines
