/- VerifyAhead, in plain words. By this session. -/
import Derived.Test.YtnfhfbdnpfgimaaDoorCVerifyAheadR
import Derived.Test.YtnfhfbdnpfgimaaDoorCmPl
import Derived.KernelRfl
namespace Go.Proofs.YtnfhfbdnpfgimaaDoor.Pure
open Go Go.Proofs.YtnfhfbdnpfgimaaDoor.Cm
set_option linter.unusedVariables false
set_option linter.unusedSimpArgs false
set_option maxRecDepth 100000
abbrev I6 := Int × Int × Int × Int × Int × Int
abbrev MM := List (Int × Int)
theorem i_const (C : List I6) (m : MM) (p : Int) (hp : 0 ≤ p ∧ p < (C.length : Int)) (a : Int) (ha : a = 0 ∨ a = 1 ∨ a = 2) (h : rdT ty6 C p = (1, a, 0, 0, 0, 0)) : verify_checker_instr_2 98 (((), p, ()), (((⟨#[102]⟩ : ByteArray), [], [], 3, [], (), (), (), (), ()), [((⟨#[105]⟩ : ByteArray), (⟨#[103]⟩ : ByteArray))], C, [((⟨#[103]⟩ : ByteArray), (([], []) : List Int × List Int))], m, ())) = some ((ErrV.nil, ()), (((⟨#[102]⟩ : ByteArray), [], [], 3, [], (), (), (), (), ()), [((⟨#[105]⟩ : ByteArray), (⟨#[103]⟩ : ByteArray))], C, [((⟨#[103]⟩ : ByteArray), (([], []) : List Int × List Int))], m, ())) := by
  simp only [verify_checker_instr_2]
  rw [if_pos hp, h]
  rcases ha with rfl | rfl | rfl <;> kernel_rfl
theorem i_end (C : List I6) (m : MM) (p : Int) (hp : 0 ≤ p ∧ p < (C.length : Int)) (h : rdT ty6 C p = (12, 0, 0, 0, 0, 0)) : verify_checker_instr_2 98 (((), p, ()), (((⟨#[102]⟩ : ByteArray), [], [], 3, [], (), (), (), (), ()), [((⟨#[105]⟩ : ByteArray), (⟨#[103]⟩ : ByteArray))], C, [((⟨#[103]⟩ : ByteArray), (([], []) : List Int × List Int))], m, ())) = some ((ErrV.nil, ()), (((⟨#[102]⟩ : ByteArray), [], [], 3, [], (), (), (), (), ()), [((⟨#[105]⟩ : ByteArray), (⟨#[103]⟩ : ByteArray))], C, [((⟨#[103]⟩ : ByteArray), (([], []) : List Int × List Int))], m, ())) := by
  simp only [verify_checker_instr_2]
  rw [if_pos hp, h]
  kernel_rfl
theorem i_jump0 (C : List I6) (m : MM) (p : Int) (hp : 0 ≤ p ∧ p < (C.length : Int)) (t : Int) (h : rdT ty6 C p = (9, 0, 0, 0, 0, t)) : verify_checker_instr_2 98 (((), p, ()), (((⟨#[102]⟩ : ByteArray), [], [], 3, [], (), (), (), (), ()), [((⟨#[105]⟩ : ByteArray), (⟨#[103]⟩ : ByteArray))], C, [((⟨#[103]⟩ : ByteArray), (([], []) : List Int × List Int))], m, ())) = (if decide (t ≤ p) then some ((ErrV.at_ p (ErrV.sent 104), ()), (((⟨#[102]⟩ : ByteArray), [], [], 3, [], (), (), (), (), ()), [((⟨#[105]⟩ : ByteArray), (⟨#[103]⟩ : ByteArray))], C, [((⟨#[103]⟩ : ByteArray), (([], []) : List Int × List Int))], m, ())) else if decide (t ≥ (C.length : Int)) then some ((ErrV.at_ p (ErrV.sent 104), ()), (((⟨#[102]⟩ : ByteArray), [], [], 3, [], (), (), (), (), ()), [((⟨#[105]⟩ : ByteArray), (⟨#[103]⟩ : ByteArray))], C, [((⟨#[103]⟩ : ByteArray), (([], []) : List Int × List Int))], m, ())) else some ((ErrV.nil, ()), (((⟨#[102]⟩ : ByteArray), [], [], 3, [], (), (), (), (), ()), [((⟨#[105]⟩ : ByteArray), (⟨#[103]⟩ : ByteArray))], C, [((⟨#[103]⟩ : ByteArray), (([], []) : List Int × List Int))], m, ()))) := by
  simp only [verify_checker_instr_2]
  rw [if_pos hp, h]
  kernel_rfl
theorem i_zero0 (C : List I6) (m : MM) (p : Int) (hp : 0 ≤ p ∧ p < (C.length : Int)) (t : Int) (h : rdT ty6 C p = (8, 0, 0, 0, 0, t)) : verify_checker_instr_2 98 (((), p, ()), (((⟨#[102]⟩ : ByteArray), [], [], 3, [], (), (), (), (), ()), [((⟨#[105]⟩ : ByteArray), (⟨#[103]⟩ : ByteArray))], C, [((⟨#[103]⟩ : ByteArray), (([], []) : List Int × List Int))], m, ())) = (if decide (t ≤ p) then some ((ErrV.at_ p (ErrV.sent 104), ()), (((⟨#[102]⟩ : ByteArray), [], [], 3, [], (), (), (), (), ()), [((⟨#[105]⟩ : ByteArray), (⟨#[103]⟩ : ByteArray))], C, [((⟨#[103]⟩ : ByteArray), (([], []) : List Int × List Int))], m, ())) else if decide (t ≥ (C.length : Int)) then some ((ErrV.at_ p (ErrV.sent 104), ()), (((⟨#[102]⟩ : ByteArray), [], [], 3, [], (), (), (), (), ()), [((⟨#[105]⟩ : ByteArray), (⟨#[103]⟩ : ByteArray))], C, [((⟨#[103]⟩ : ByteArray), (([], []) : List Int × List Int))], m, ())) else some ((ErrV.nil, ()), (((⟨#[102]⟩ : ByteArray), [], [], 3, [], (), (), (), (), ()), [((⟨#[105]⟩ : ByteArray), (⟨#[103]⟩ : ByteArray))], C, [((⟨#[103]⟩ : ByteArray), (([], []) : List Int × List Int))], m, ()))) := by
  simp only [verify_checker_instr_2]
  rw [if_pos hp, h]
  kernel_rfl
theorem i_call1 (C : List I6) (p : Int) (hp : 0 ≤ p ∧ p < (C.length : Int)) (h : rdT ty6 C p = (11, 0, 0, 0, 0, 0)) : verify_checker_instr_2 98 (((), p, ()), (((⟨#[102]⟩ : ByteArray), [], [], 3, [], (), (), (), (), ()), [((⟨#[105]⟩ : ByteArray), (⟨#[103]⟩ : ByteArray))], C, [((⟨#[103]⟩ : ByteArray), (([], []) : List Int × List Int))], [], ())) = some ((ErrV.nil, ()), (((⟨#[102]⟩ : ByteArray), [], [], 3, [], (), (), (), (), ()), [((⟨#[105]⟩ : ByteArray), (⟨#[103]⟩ : ByteArray))], C, [((⟨#[103]⟩ : ByteArray), (([], []) : List Int × List Int))], [(0, 1)], ())) := by
  simp only [verify_checker_instr_2]
  rw [if_pos hp, h]
  kernel_rfl
theorem i_call2 (C : List I6) (p : Int) (hp : 0 ≤ p ∧ p < (C.length : Int)) (h : rdT ty6 C p = (11, 0, 0, 0, 0, 0)) : verify_checker_instr_2 98 (((), p, ()), (((⟨#[102]⟩ : ByteArray), [], [], 3, [], (), (), (), (), ()), [((⟨#[105]⟩ : ByteArray), (⟨#[103]⟩ : ByteArray))], C, [((⟨#[103]⟩ : ByteArray), (([], []) : List Int × List Int))], [(0, 1)], ())) = some ((ErrV.at_ p (ErrV.sent 103), ()), (((⟨#[102]⟩ : ByteArray), [], [], 3, [], (), (), (), (), ()), [((⟨#[105]⟩ : ByteArray), (⟨#[103]⟩ : ByteArray))], C, [((⟨#[103]⟩ : ByteArray), (([], []) : List Int × List Int))], [(0, 1)], ())) := by
  simp only [verify_checker_instr_2]
  rw [if_pos hp, h]
  kernel_rfl
theorem L_nil {k p : Nat} {C : List I6} {m m' : MM} (hp : p < C.length) (hl : C.length < 1000) (h : verify_checker_instr_2 98 (((), (p : Int), ()), (((⟨#[102]⟩ : ByteArray), [], [], 3, [], (), (), (), (), ()), [((⟨#[105]⟩ : ByteArray), (⟨#[103]⟩ : ByteArray))], C, [((⟨#[103]⟩ : ByteArray), (([], []) : List Int × List Int))], m, ())) = some ((ErrV.nil, ()), (((⟨#[102]⟩ : ByteArray), [], [], 3, [], (), (), (), (), ()), [((⟨#[105]⟩ : ByteArray), (⟨#[103]⟩ : ByteArray))], C, [((⟨#[103]⟩ : ByteArray), (([], []) : List Int × List Int))], m', ()))) : verify_Object_2_l16 98 (k + 1) (((), (C.length : Int), (p : Int), ()), ([((⟨#[105]⟩ : ByteArray), (⟨#[103]⟩ : ByteArray))], C, ((⟨#[102]⟩ : ByteArray), [], [], 3, [], (), (), (), (), ()), [((⟨#[103]⟩ : ByteArray), (([], []) : List Int × List Int))], m, ())) = verify_Object_2_l16 98 k (((), (C.length : Int), ((p + 1 : Nat) : Int), ()), ([((⟨#[105]⟩ : ByteArray), (⟨#[103]⟩ : ByteArray))], C, ((⟨#[102]⟩ : ByteArray), [], [], 3, [], (), (), (), (), ()), [((⟨#[103]⟩ : ByteArray), (([], []) : List Int × List Int))], m', ())) := by
  simp only [verify_Object_2_l16]
  rw [if_pos (decide_eq_true (show (p : Int) < (C.length : Int) by omega)), h]
  simp only []
  rw [if_neg (by simp [errNil]), w64_up p (by omega)]
theorem L_err {k p : Nat} {C : List I6} {m m' : MM} {q : Int} {e : ErrV} (hp : p < C.length) (h : verify_checker_instr_2 98 (((), (p : Int), ()), (((⟨#[102]⟩ : ByteArray), [], [], 3, [], (), (), (), (), ()), [((⟨#[105]⟩ : ByteArray), (⟨#[103]⟩ : ByteArray))], C, [((⟨#[103]⟩ : ByteArray), (([], []) : List Int × List Int))], m, ())) = some ((ErrV.at_ q e, ()), (((⟨#[102]⟩ : ByteArray), [], [], 3, [], (), (), (), (), ()), [((⟨#[105]⟩ : ByteArray), (⟨#[103]⟩ : ByteArray))], C, [((⟨#[103]⟩ : ByteArray), (([], []) : List Int × List Int))], m', ()))) : verify_Object_2_l16 98 (k + 1) (((), (C.length : Int), (p : Int), ()), ([((⟨#[105]⟩ : ByteArray), (⟨#[103]⟩ : ByteArray))], C, ((⟨#[102]⟩ : ByteArray), [], [], 3, [], (), (), (), (), ()), [((⟨#[103]⟩ : ByteArray), (([], []) : List Int × List Int))], m, ())) = some (.inr (.inl ((ErrV.at_ q e, ()), ([((⟨#[105]⟩ : ByteArray), (⟨#[103]⟩ : ByteArray))], C, ())))) := by
  simp only [verify_Object_2_l16]
  rw [if_pos (decide_eq_true (show (p : Int) < (C.length : Int) by omega)), h]
  simp only []
  rw [if_pos (by simp [errNil])]
theorem L_end {k : Nat} {C : List I6} {m : MM} : verify_Object_2_l16 98 (k + 1) (((), (C.length : Int), (C.length : Int), ()), ([((⟨#[105]⟩ : ByteArray), (⟨#[103]⟩ : ByteArray))], C, ((⟨#[102]⟩ : ByteArray), [], [], 3, [], (), (), (), (), ()), [((⟨#[103]⟩ : ByteArray), (([], []) : List Int × List Int))], m, ())) = some (.inl ((), ([((⟨#[105]⟩ : ByteArray), (⟨#[103]⟩ : ByteArray))], C, ()))) := by
  simp only [verify_Object_2_l16]
  rw [if_neg (by simp)]
/-- From one place to another, all that is between being right. -/
def Good1 (C : List I6) (m : MM) (p : Nat) : Prop := verify_checker_instr_2 98 (((), (p : Int), ()), (((⟨#[102]⟩ : ByteArray), [], [], 3, [], (), (), (), (), ()), [((⟨#[105]⟩ : ByteArray), (⟨#[103]⟩ : ByteArray))], C, [((⟨#[103]⟩ : ByteArray), (([], []) : List Int × List Int))], m, ())) = some ((ErrV.nil, ()), (((⟨#[102]⟩ : ByteArray), [], [], 3, [], (), (), (), (), ()), [((⟨#[105]⟩ : ByteArray), (⟨#[103]⟩ : ByteArray))], C, [((⟨#[103]⟩ : ByteArray), (([], []) : List Int × List Int))], m, ()))
theorem run {C : List I6} {m : MM} (hl : C.length < 1000) : ∀ (d p k : Nat), p + d ≤ C.length → (∀ j, p ≤ j → j < p + d → Good1 C m j) → verify_Object_2_l16 98 (k + d) (((), (C.length : Int), (p : Int), ()), ([((⟨#[105]⟩ : ByteArray), (⟨#[103]⟩ : ByteArray))], C, ((⟨#[102]⟩ : ByteArray), [], [], 3, [], (), (), (), (), ()), [((⟨#[103]⟩ : ByteArray), (([], []) : List Int × List Int))], m, ())) = verify_Object_2_l16 98 k (((), (C.length : Int), ((p + d : Nat) : Int), ()), ([((⟨#[105]⟩ : ByteArray), (⟨#[103]⟩ : ByteArray))], C, ((⟨#[102]⟩ : ByteArray), [], [], 3, [], (), (), (), (), ()), [((⟨#[103]⟩ : ByteArray), (([], []) : List Int × List Int))], m, ()))
  | 0, p, k, _, _ => rfl
  | d + 1, p, k, h1, h2 => by
    rw [show k + (d + 1) = (k + d) + 1 by omega, L_nil (by omega) hl (h2 p (by omega) (by omega)), run hl d (p + 1) k (by omega) (fun j h3 h4 => h2 j (by omega) (by omega)), show p + 1 + d = p + (d + 1) by omega]
theorem shape_at (C : List I6) : verify_shape_2 98 ((((⟨#[102]⟩ : ByteArray), [], [], 3, [], (), (), ()), ()), ([((⟨#[105]⟩ : ByteArray), (⟨#[103]⟩ : ByteArray))], C, ())) = some ((true, ()), ([((⟨#[105]⟩ : ByteArray), (⟨#[103]⟩ : ByteArray))], C, ())) := by kernel_rfl
theorem l5_at (C : List I6) : verify_Object_2_l5 98 98 (([((⟨#[103]⟩ : ByteArray), (([], []) : List Int × List Int))], (), (), (), ([((⟨#[105]⟩ : ByteArray), (⟨#[103]⟩ : ByteArray))].length : Int), 0, ()), ([((⟨#[105]⟩ : ByteArray), (⟨#[103]⟩ : ByteArray))], C, ((⟨#[102]⟩ : ByteArray), [], [], 3, [], (), (), ()), ((⟨#[102]⟩ : ByteArray), [], [], 3, [], (), (), (), (), ()), [], [], ())) = some (.inl (((), (), ()), ([((⟨#[105]⟩ : ByteArray), (⟨#[103]⟩ : ByteArray))], C, ((⟨#[102]⟩ : ByteArray), [], [], 3, [], (), (), ()), ((⟨#[102]⟩ : ByteArray), [], [], 3, [], (), (), (), (), ()), [((⟨#[103]⟩ : ByteArray), (([], []) : List Int × List Int))], [], ()))) := by kernel_rfl
theorem obj_ok {C : List I6} (h0 : 0 < C.length) (hl : C.length < 1000) (he : rdT ty6 C ((C.length - 1 : Nat) : Int) = (12, 0, 0, 0, 0, 0)) (h : verify_Object_2_l16 98 98 (((), (C.length : Int), ((0 : Nat) : Int), ()), ([((⟨#[105]⟩ : ByteArray), (⟨#[103]⟩ : ByteArray))], C, ((⟨#[102]⟩ : ByteArray), [], [], 3, [], (), (), (), (), ()), [((⟨#[103]⟩ : ByteArray), (([], []) : List Int × List Int))], [], ())) = some (.inl ((), ([((⟨#[105]⟩ : ByteArray), (⟨#[103]⟩ : ByteArray))], C, ())))) : verify_Object_2 99 ((((⟨#[102]⟩ : ByteArray), [], [], 3, [], (), (), ()), [((⟨#[103]⟩ : ByteArray), (([], []) : List Int × List Int))], ()), ([((⟨#[105]⟩ : ByteArray), (⟨#[103]⟩ : ByteArray))], C, ())) = some ((ErrV.nil, ()), ([((⟨#[105]⟩ : ByteArray), (⟨#[103]⟩ : ByteArray))], C, ())) := by
  simp only [verify_Object_2]
  rw [shape_at]
  simp only []
  rw [if_neg (by simp), l5_at]
  simp only []
  rw [if_neg (by simp; intro hc; subst hc; simp at h0), w64_id (x := (C.length : Int) - 1) (by omega) (by omega), if_pos (show 0 ≤ (C.length : Int) - 1 ∧ (C.length : Int) - 1 < (C.length : Int) from ⟨by omega, by omega⟩), show (C.length : Int) - 1 = ((C.length - 1 : Nat) : Int) by omega, he, if_neg (by simp)]
  have h := h
  rw [show ((0 : Nat) : Int) = 0 from rfl] at h
  rw [h]
theorem obj_err {C : List I6} {q : Int} {e : ErrV} (h0 : 0 < C.length) (hl : C.length < 1000) (he : rdT ty6 C ((C.length - 1 : Nat) : Int) = (12, 0, 0, 0, 0, 0)) (h : verify_Object_2_l16 98 98 (((), (C.length : Int), ((0 : Nat) : Int), ()), ([((⟨#[105]⟩ : ByteArray), (⟨#[103]⟩ : ByteArray))], C, ((⟨#[102]⟩ : ByteArray), [], [], 3, [], (), (), (), (), ()), [((⟨#[103]⟩ : ByteArray), (([], []) : List Int × List Int))], [], ())) = some (.inr (.inl ((ErrV.at_ q e, ()), ([((⟨#[105]⟩ : ByteArray), (⟨#[103]⟩ : ByteArray))], C, ()))))) : verify_Object_2 99 ((((⟨#[102]⟩ : ByteArray), [], [], 3, [], (), (), ()), [((⟨#[103]⟩ : ByteArray), (([], []) : List Int × List Int))], ()), ([((⟨#[105]⟩ : ByteArray), (⟨#[103]⟩ : ByteArray))], C, ())) = some ((ErrV.at_ q e, ()), ([((⟨#[105]⟩ : ByteArray), (⟨#[103]⟩ : ByteArray))], C, ())) := by
  simp only [verify_Object_2]
  rw [shape_at]
  simp only []
  rw [if_neg (by simp), l5_at]
  simp only []
  rw [if_neg (by simp; intro hc; subst hc; simp at h0), w64_id (x := (C.length : Int) - 1) (by omega) (by omega), if_pos (show 0 ≤ (C.length : Int) - 1 ∧ (C.length : Int) - 1 < (C.length : Int) from ⟨by omega, by omega⟩), show (C.length : Int) - 1 = ((C.length - 1 : Nat) : Int) by omega, he, if_neg (by simp)]
  have h := h
  rw [show ((0 : Nat) : Int) = 0 from rfl] at h
  rw [h]
end Go.Proofs.YtnfhfbdnpfgimaaDoor.Pure
