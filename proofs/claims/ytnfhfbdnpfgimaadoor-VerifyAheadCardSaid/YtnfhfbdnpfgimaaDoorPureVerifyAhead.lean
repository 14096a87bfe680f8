/- VerifyAhead, in plain words: codes with a jump, with calls. By this session. -/
import Derived.Test.YtnfhfbdnpfgimaaDoorVerifyAheadA
namespace Go.Proofs.YtnfhfbdnpfgimaaDoor.Pure
open Go Go.Proofs.YtnfhfbdnpfgimaaDoor.Cm
set_option linter.unusedVariables false
set_option linter.unusedSimpArgs false
set_option maxRecDepth 100000
theorem number_at {n : Nat} (hn : 1 ≤ n) (x m : Int) (hm : 0 < m) (hm1 : m < 1000000) : world_Number n ((x, m, ()), ()) = some ((num x m, ()), ()) := by
  obtain ⟨n, rfl⟩ : ∃ k, n = k + 1 := ⟨n - 1, by omega⟩
  have hb := tmod_b x m hm
  simp only [world_Number]
  rw [if_neg (show ¬ m = 0 by omega)]
  unfold num
  by_cases h : Int.tmod x m < 0
  · rw [if_pos (decide_eq_true h), if_pos h, w64_id (by omega) (by omega)]
  · rw [if_neg (by simpa using h), if_neg h]
def cst (j : Nat) : I6 := (1, Int.tmod (j : Int) 3, 0, 0, 0, 0)
def base (n : Nat) : List I6 := ((List.range n).map cst).set (n - 1) (12, 0, 0, 0, 0, 0)
theorem base_len (n : Nat) : (base n).length = n := by simp [base]
theorem getD_set {α : Type} (l : List α) (i j : Nat) (x d : α) (hj : j < l.length) : (l.set i x).getD j d = if i = j then x else l.getD j d := by
  simp only [List.getD_eq_getElem?_getD, List.getElem?_set]
  by_cases h : i = j
  · subst h; simp [hj]
  · simp [h]
theorem getD_base (n j : Nat) (hj : j < n) (d : I6) : (base n).getD j d = if n - 1 = j then (12, 0, 0, 0, 0, 0) else cst j := by
  rw [base, getD_set _ _ _ _ _ (by simpa using hj)]
  split
  · rfl
  · simp [List.getD_eq_getElem?_getD, hj]
theorem good_cst {C : List I6} {m : MM} {j : Nat} (hj : j < C.length) (h : C.getD j (Ty.dflt ty6) = cst j) : Good1 C m j := by
  refine i_const C m (j : Int) ⟨by omega, by omega⟩ (Int.tmod (j : Int) 3) ?_ ?_
  · have := tmod_b (j : Int) 3 (by omega)
    have h2 : 0 ≤ Int.tmod (j : Int) 3 := Int.tmod_nonneg _ (by omega)
    omega
  · rw [rdT_nat]; exact h
theorem good_end {C : List I6} {m : MM} {j : Nat} (hj : j < C.length) (h : C.getD j (Ty.dflt ty6) = (12, 0, 0, 0, 0, 0)) : Good1 C m j :=
  i_end C m (j : Int) ⟨by omega, by omega⟩ (by rw [rdT_nat]; exact h)
theorem good_base {C : List I6} {m : MM} {n j : Nat} (hn : C.length = n) (hj : j < n) (h : C.getD j (Ty.dflt ty6) = (base n).getD j (Ty.dflt ty6)) : Good1 C m j := by
  rw [getD_base n j hj] at h
  split at h
  · exact good_end (by omega) h
  · exact good_cst (by omega) h
/-- What a jump at a place is. -/
def jmp (z : Bool) (t : Int) : I6 := (if z then 8 else 9, 0, 0, 0, 0, t)
theorem good_jmp {C : List I6} {m : MM} {j : Nat} {z : Bool} {t : Int} (hj : j < C.length) (h : C.getD j (Ty.dflt ty6) = jmp z t) (h1 : (j : Int) < t) (h2 : t < (C.length : Int)) : Good1 C m j := by
  unfold Good1
  cases z with
  | true =>
    rw [i_zero0 C m (j : Int) ⟨by omega, by omega⟩ t (by rw [rdT_nat]; exact h), if_neg (by simp; omega), if_neg (by simp; omega)]
  | false =>
    rw [i_jump0 C m (j : Int) ⟨by omega, by omega⟩ t (by rw [rdT_nat]; exact h), if_neg (by simp; omega), if_neg (by simp; omega)]
theorem bad_jmp {C : List I6} {m : MM} {j : Nat} {z : Bool} {t : Int} (hj : j < C.length) (h : C.getD j (Ty.dflt ty6) = jmp z t) (h1 : t ≤ (j : Int) ∨ (C.length : Int) ≤ t) : verify_checker_instr_2 98 (((), (j : Int), ()), (((⟨#[102]⟩ : ByteArray), [], [], 3, [], (), (), (), (), ()), [((⟨#[105]⟩ : ByteArray), (⟨#[103]⟩ : ByteArray))], C, [((⟨#[103]⟩ : ByteArray), (([], []) : List Int × List Int))], m, ())) = some ((ErrV.at_ (j : Int) (ErrV.sent 104), ()), (((⟨#[102]⟩ : ByteArray), [], [], 3, [], (), (), (), (), ()), [((⟨#[105]⟩ : ByteArray), (⟨#[103]⟩ : ByteArray))], C, [((⟨#[103]⟩ : ByteArray), (([], []) : List Int × List Int))], m, ())) := by
  cases z with
  | true =>
    rw [i_zero0 C m (j : Int) ⟨by omega, by omega⟩ t (by rw [rdT_nat]; exact h)]
    by_cases h2 : t ≤ (j : Int)
    · rw [if_pos (decide_eq_true h2)]
    · rw [if_neg (by simpa using h2), if_pos (decide_eq_true (by omega))]
  | false =>
    rw [i_jump0 C m (j : Int) ⟨by omega, by omega⟩ t (by rw [rdT_nat]; exact h)]
    by_cases h2 : t ≤ (j : Int)
    · rw [if_pos (decide_eq_true h2)]
    · rw [if_neg (by simpa using h2), if_pos (decide_eq_true (by omega))]
section
variable {n f : Nat} (h2 : 2 ≤ n) (hn : n < 90) (hf : f + 1 < n) (z : Bool) (t : Int)
def code1 (n f : Nat) (z : Bool) (t : Int) : List I6 := (base n).set f (jmp z t)
def code2 (n f : Nat) (z : Bool) (t : Int) : List I6 := (code1 n f z t).set (f - 1) (11, 0, 0, 0, 0, 0)
def code3 (n f : Nat) (z : Bool) (t : Int) : List I6 := (code2 n f z t).set f (11, 0, 0, 0, 0, 0)
theorem len1 : (code1 n f z t).length = n := by simp [code1, base_len]
theorem len2 : (code2 n f z t).length = n := by simp [code2, len1]
theorem len3 : (code3 n f z t).length = n := by simp [code3, len2]
theorem get1 {j : Nat} (hj : j < n) (d : I6) : (code1 n f z t).getD j d = if f = j then jmp z t else (base n).getD j d := getD_set _ _ _ _ _ (by rw [base_len]; exact hj)
theorem get2 {j : Nat} (hj : j < n) (d : I6) : (code2 n f z t).getD j d = if f - 1 = j then (11, 0, 0, 0, 0, 0) else (code1 n f z t).getD j d := getD_set _ _ _ _ _ (by rw [len1]; exact hj)
theorem get3 {j : Nat} (hj : j < n) (d : I6) : (code3 n f z t).getD j d = if f = j then (11, 0, 0, 0, 0, 0) else (code2 n f z t).getD j d := getD_set _ _ _ _ _ (by rw [len2]; exact hj)
theorem last1 (h2 : 2 ≤ n) (hf : f + 1 < n) : rdT ty6 (code1 n f z t) (((code1 n f z t).length - 1 : Nat) : Int) = (12, 0, 0, 0, 0, 0) := by
  rw [rdT_nat, len1, get1 z t (by omega), if_neg (by omega), getD_base _ _ (by omega), if_pos rfl]
theorem last2 (h2 : 2 ≤ n) (hf : f + 1 < n) : rdT ty6 (code2 n f z t) (((code2 n f z t).length - 1 : Nat) : Int) = (12, 0, 0, 0, 0, 0) := by
  rw [rdT_nat, len2, get2 z t (by omega), if_neg (by omega), get1 z t (by omega), if_neg (by omega), getD_base _ _ (by omega), if_pos rfl]
theorem last3 (h2 : 2 ≤ n) (hf : f + 1 < n) : rdT ty6 (code3 n f z t) (((code3 n f z t).length - 1 : Nat) : Int) = (12, 0, 0, 0, 0, 0) := by
  rw [rdT_nat, len3, get3 z t (by omega), if_neg (by omega), get2 z t (by omega), if_neg (by omega), get1 z t (by omega), if_neg (by omega), getD_base _ _ (by omega), if_pos rfl]
theorem obj1_ok (h2 : 2 ≤ n) (hn : n < 90) (hf : f + 1 < n) (h3 : (f : Int) < t) (h4 : t < (n : Int)) : verify_Object_2 99 ((((⟨#[102]⟩ : ByteArray), [], [], 3, [], (), (), ()), [((⟨#[103]⟩ : ByteArray), (([], []) : List Int × List Int))], ()), ([((⟨#[105]⟩ : ByteArray), (⟨#[103]⟩ : ByteArray))], (code1 n f z t), ())) = some ((ErrV.nil, ()), ([((⟨#[105]⟩ : ByteArray), (⟨#[103]⟩ : ByteArray))], code1 n f z t, ())) := by
  have hl := len1 (n := n) (f := f) z t
  refine obj_ok (by omega) (by omega) (last1 z t h2 hf) ?_
  have hr := run (C := code1 n f z t) (m := []) (by omega) n 0 (98 - n) (by omega) (fun j _ hj => by
    by_cases h : f = j
    · subst h
      exact good_jmp (by omega) (by rw [get1 z t (by omega), if_pos rfl]) h3 (by omega)
    · exact good_base hl (by omega) (by rw [get1 z t (by omega), if_neg h]))
  rw [show 98 - n + n = 98 by omega, Nat.zero_add] at hr
  rw [hr, show 98 - n = (97 - n) + 1 by omega, show ((n : Nat) : Int) = ((code1 n f z t).length : Int) by omega, L_end]
theorem obj1_err (h2 : 2 ≤ n) (hn : n < 90) (hf : f + 1 < n) (h3 : t ≤ (f : Int) ∨ (n : Int) ≤ t) : verify_Object_2 99 ((((⟨#[102]⟩ : ByteArray), [], [], 3, [], (), (), ()), [((⟨#[103]⟩ : ByteArray), (([], []) : List Int × List Int))], ()), ([((⟨#[105]⟩ : ByteArray), (⟨#[103]⟩ : ByteArray))], (code1 n f z t), ())) = some ((ErrV.at_ (f : Int) (ErrV.sent 104), ()), ([((⟨#[105]⟩ : ByteArray), (⟨#[103]⟩ : ByteArray))], code1 n f z t, ())) := by
  have hl := len1 (n := n) (f := f) z t
  refine obj_err (by omega) (by omega) (last1 z t h2 hf) ?_
  have hr := run (C := code1 n f z t) (m := []) (by omega) f 0 (98 - f) (by omega) (fun j _ hj => good_base hl (by omega) (by rw [get1 z t (by omega), if_neg (by omega)]))
  rw [show 98 - f + f = 98 by omega, Nat.zero_add] at hr
  rw [hr, show 98 - f = (97 - f) + 1 by omega]
  exact L_err (by omega) (bad_jmp (by omega) (by rw [get1 z t (by omega), if_pos rfl]) (by omega))
theorem obj2_ok (h2 : 2 ≤ n) (hn : n < 90) (hf : f + 1 < n) (h0 : 1 ≤ f) (h3 : (f : Int) < t) (h4 : t < (n : Int)) : verify_Object_2 99 ((((⟨#[102]⟩ : ByteArray), [], [], 3, [], (), (), ()), [((⟨#[103]⟩ : ByteArray), (([], []) : List Int × List Int))], ()), ([((⟨#[105]⟩ : ByteArray), (⟨#[103]⟩ : ByteArray))], (code2 n f z t), ())) = some ((ErrV.nil, ()), ([((⟨#[105]⟩ : ByteArray), (⟨#[103]⟩ : ByteArray))], code2 n f z t, ())) := by
  have hl := len2 (n := n) (f := f) z t
  refine obj_ok (by omega) (by omega) (last2 z t h2 hf) ?_
  have hr := run (C := code2 n f z t) (m := []) (by omega) (f - 1) 0 (98 - (f - 1)) (by omega) (fun j _ hj => good_base hl (by omega) (by rw [get2 z t (by omega), if_neg (by omega), get1 z t (by omega), if_neg (by omega)]))
  rw [show 98 - (f - 1) + (f - 1) = 98 by omega, Nat.zero_add] at hr
  have hc := i_call1 (code2 n f z t) ((f - 1 : Nat) : Int) ⟨by omega, by omega⟩ (by rw [rdT_nat, get2 z t (by omega), if_pos rfl])
  have hr2 := run (C := code2 n f z t) (m := [(0, 1)]) (by omega) (n - f) f (98 - n) (by omega) (fun j hj1 hj => by
    by_cases h : f = j
    · subst h
      exact good_jmp (by omega) (by rw [get2 z t (by omega), if_neg (by omega), get1 z t (by omega), if_pos rfl]) h3 (by omega)
    · exact good_base hl (by omega) (by rw [get2 z t (by omega), if_neg (by omega), get1 z t (by omega), if_neg h]))
  rw [show 98 - n + (n - f) = 98 - f by omega, show f + (n - f) = n by omega] at hr2
  rw [hr, show 98 - (f - 1) = (98 - f) + 1 by omega, L_nil (by omega) (by omega) hc, show f - 1 + 1 = f by omega, hr2, show 98 - n = (97 - n) + 1 by omega, show ((n : Nat) : Int) = ((code2 n f z t).length : Int) by omega, L_end]
theorem obj3_err (h2 : 2 ≤ n) (hn : n < 90) (hf : f + 1 < n) (h0 : 1 ≤ f) : verify_Object_2 99 ((((⟨#[102]⟩ : ByteArray), [], [], 3, [], (), (), ()), [((⟨#[103]⟩ : ByteArray), (([], []) : List Int × List Int))], ()), ([((⟨#[105]⟩ : ByteArray), (⟨#[103]⟩ : ByteArray))], (code3 n f z t), ())) = some ((ErrV.at_ (f : Int) (ErrV.sent 103), ()), ([((⟨#[105]⟩ : ByteArray), (⟨#[103]⟩ : ByteArray))], code3 n f z t, ())) := by
  have hl := len3 (n := n) (f := f) z t
  refine obj_err (by omega) (by omega) (last3 z t h2 hf) ?_
  have hr := run (C := code3 n f z t) (m := []) (by omega) (f - 1) 0 (98 - (f - 1)) (by omega) (fun j _ hj => good_base hl (by omega) (by rw [get3 z t (by omega), if_neg (by omega), get2 z t (by omega), if_neg (by omega), get1 z t (by omega), if_neg (by omega)]))
  rw [show 98 - (f - 1) + (f - 1) = 98 by omega, Nat.zero_add] at hr
  have hc := i_call1 (code3 n f z t) ((f - 1 : Nat) : Int) ⟨by omega, by omega⟩ (by rw [rdT_nat, get3 z t (by omega), if_neg (by omega), get2 z t (by omega), if_pos rfl])
  rw [hr, show 98 - (f - 1) = (98 - f) + 1 by omega, L_nil (by omega) (by omega) hc, show f - 1 + 1 = f by omega, show 98 - f = (97 - f) + 1 by omega]
  exact L_err (by omega) (i_call2 (code3 n f z t) (f : Int) ⟨by omega, by omega⟩ (by rw [rdT_nat, get3 z t (by omega), if_pos rfl]))
end
theorem first_at : law22_first 99 ((), ()) = some ((true, ()), ()) := by kernel_rfl
theorem end_at : law22_end 99 ((), ()) = some (((12, 0, 0, 0, 0, 0, ()), ()), ()) := by kernel_rfl
theorem placed_at (c p : Int) (h : c = 103 ∨ c = 104) : ref_Placed 99 ((c, p, ()), ()) = some (((c, true, false, p, 0, ()), ()), ()) := by
  rcases h with rfl | rfl <;> kernel_rfl
theorem same3 : (List.range 40).all (fun p => yes (pendulumsee_Same 99 ((ErrV.at_ (p : Int) (ErrV.sent 103), (103, true, false, (p : Int), 0, ()), ()), ()))) = true := by kernel_rfl
theorem same4 : (List.range 40).all (fun p => yes (pendulumsee_Same 99 ((ErrV.at_ (p : Int) (ErrV.sent 104), (104, true, false, (p : Int), 0, ()), ()), ()))) = true := by kernel_rfl
theorem loop_at (n : Nat) (hn : n < 90) (y t : Int) (z c : Bool) : law22_VerifyAhead_l9 99 99 (((n : Int), y, t, z, c, true, (), 0, ()), (((⟨#[102]⟩ : ByteArray), (), (), 3, (), (), (), ()), [((⟨#[105]⟩ : ByteArray), (⟨#[103]⟩ : ByteArray))], [], ())) = some (.inl (((n : Int), y, t, z, c, true, (), ()), (((⟨#[102]⟩ : ByteArray), (), (), 3, (), (), (), ()), [((⟨#[105]⟩ : ByteArray), (⟨#[103]⟩ : ByteArray))], (List.range n).map cst, ()))) := by
  have h := for_all (F := law22_VerifyAhead_l9 99) (len := n) (fun i => (((n : Int), y, t, z, c, true, (), (i : Int), ()), (((⟨#[102]⟩ : ByteArray), (), (), 3, (), (), (), ()), [((⟨#[105]⟩ : ByteArray), (⟨#[103]⟩ : ByteArray))], (List.range i).map cst, ()))) (r := some (.inl (((n : Int), y, t, z, c, true, (), ()), (((⟨#[102]⟩ : ByteArray), (), (), 3, (), (), (), ()), [((⟨#[105]⟩ : ByteArray), (⟨#[103]⟩ : ByteArray))], (List.range n).map cst, ())))) (fun i k hi => by
    simp only [law22_VerifyAhead_l9]
    rw [if_pos (decide_eq_true (show (i : Int) < (n : Int) by omega)), if_pos (by simp; omega), w64_up i (by omega), List.range_succ, List.map_append]
    rfl) (fun k => by
    simp only [law22_VerifyAhead_l9]
    rw [if_neg (by simp)]) (k := 99) (by omega)
  exact h
theorem c16_at (n f : Nat) (t : Int) (z c : Bool) (C : List I6) : law22_VerifyAhead_c16 99 (((n : Int), (f : Int), t, z, c, true, (), (), ()), (((⟨#[102]⟩ : ByteArray), (), (), 3, (), (), (), ()), (9, 0, 0, 0, 0, t, ()), [((⟨#[105]⟩ : ByteArray), (⟨#[103]⟩ : ByteArray))], C, ())) = some (.inl (((n : Int), (f : Int), t, c, true, (), (), ()), (((⟨#[102]⟩ : ByteArray), (), (), 3, (), (), (), ()), ((jmp z t).1, 0, 0, 0, 0, t, ()), [((⟨#[105]⟩ : ByteArray), (⟨#[103]⟩ : ByteArray))], C, ()))) := by
  cases z <;> rfl
theorem VerifyAhead : law22_VerifyAhead.Pure := by
  intro x y w z c _ _ _ _ _
  refine ⟨100, ?_⟩
  obtain ⟨i, hi, ei⟩ := num_nat x (show (0 : Int) < 20 by omega)
  have e1 : IntKind.i64.wrap ((i : Int) + 2) = ((i + 2 : Nat) : Int) := by rw [w64_id (by omega) (by omega)]; rfl
  have e2 : IntKind.i64.wrap (((i + 2 : Nat) : Int) - 1) = ((i + 1 : Nat) : Int) := by rw [w64_id (by omega) (by omega)]; omega
  have e3 : IntKind.i64.wrap (((i + 2 : Nat) : Int) + 3) = ((i + 5 : Nat) : Int) := by rw [w64_id (by omega) (by omega)]; omega
  obtain ⟨f, hf, ef⟩ := num_nat y (show (0 : Int) < ((i + 1 : Nat) : Int) by omega)
  obtain ⟨t, ht, et⟩ := num_nat w (show (0 : Int) < ((i + 5 : Nat) : Int) by omega)
  have e4 : IntKind.i64.wrap ((t : Int) - 1) = (t : Int) - 1 := w64_id (by omega) (by omega)
  generalize hT : (t : Int) - 1 = T at e4
  have l0 := loop_at (i + 2) (by omega) (f : Int) T z c
  have c0 := c16_at (i + 2) f T z c (base (i + 2))
  have hb : List.set ((List.range (i + 2)).map cst) (((i + 1 : Nat) : Int)).toNat (12, 0, 0, 0, 0, 0) = base (i + 2) := by simp [base]
  have hj : List.set (base (i + 2)) ((f : Int)).toNat ((jmp z T).1, 0, 0, 0, 0, T) = code1 (i + 2) f z T := by simp [code1, jmp]
  have hbl := base_len (i + 2)
  have hl0 : ((List.range (i + 2)).map cst).length = i + 2 := by simp
  simp only [law22_VerifyAhead, first_at, number_at (n := 99) (by omega) x 20 (by omega) (by omega), ei, e1, e2, number_at (n := 99) (by omega) y ((i + 1 : Nat) : Int) (by omega) (by omega), ef, e3, number_at (n := 99) (by omega) w ((i + 5 : Nat) : Int) (by omega) (by omega), et, hT, e4]
  rw [first_at]
  simp only [Bool.not_true, Bool.false_eq_true, if_false]
  rw [l0]
  simp only [e2]
  rw [end_at]
  simp only []
  rw [if_pos (show 0 ≤ ((i + 1 : Nat) : Int) ∧ ((i + 1 : Nat) : Int) < (((List.range (i + 2)).map cst).length : Int) from ⟨by omega, by rw [hl0]; omega⟩), hb, c0]
  simp only []
  rw [if_pos (show 0 ≤ (f : Int) ∧ (f : Int) < ((base (i + 2)).length : Int) from ⟨by omega, by rw [hbl]; omega⟩), hj]
  by_cases hin : (f : Int) < T ∧ T < ((i + 2 : Nat) : Int)
  · rw [obj1_ok z T (by omega) (by omega) (by omega) hin.1 hin.2]
    simp only []
    rw [if_neg (show ¬ (decide (T ≤ (f : Int)) = true) from fun e => by have := of_decide_eq_true e; omega), if_neg (show ¬ (decide (T ≥ ((i + 2 : Nat) : Int)) = true) from fun e => by have := of_decide_eq_true e; omega), if_neg (by simp [errNil])]
    cases c with
    | false => rfl
    | true =>
      simp only [Bool.not_true, Bool.false_eq_true, if_false]
      by_cases h0 : f < 1
      · rw [if_pos (show decide ((f : Int) < 1) = true from decide_eq_true (by omega))]
      · have e5 : IntKind.i64.wrap ((f : Int) - 1) = ((f - 1 : Nat) : Int) := by rw [w64_id (by omega) (by omega)]; omega
        have hs2 : List.set (code1 (i + 2) f z T) (((f - 1 : Nat) : Int)).toNat (11, 0, 0, 0, 0, 0) = code2 (i + 2) f z T := by simp [code2]
        have hs3 : List.set (code2 (i + 2) f z T) ((f : Int)).toNat (11, 0, 0, 0, 0, 0) = code3 (i + 2) f z T := by simp [code3]
        have hl1 := len1 (n := i + 2) (f := f) z T
        have hl2 := len2 (n := i + 2) (f := f) z T
        rw [if_neg (show ¬ (decide ((f : Int) < 1) = true) from fun e => by have := of_decide_eq_true e; omega), e5, if_pos (show 0 ≤ ((f - 1 : Nat) : Int) ∧ ((f - 1 : Nat) : Int) < ((code1 (i + 2) f z T).length : Int) from ⟨by omega, by rw [hl1]; omega⟩), hs2, obj2_ok z T (by omega) (by omega) (by omega) (by omega) hin.1 hin.2]
        simp only []
        rw [if_neg (by simp [errNil]), if_pos (show 0 ≤ (f : Int) ∧ (f : Int) < ((code2 (i + 2) f z T).length : Int) from ⟨by omega, by rw [hl2]; omega⟩), if_pos trivial, hs3, obj3_err z T (by omega) (by omega) (by omega) (by omega)]
        simp only []
        rw [placed_at 103 (f : Int) (.inl rfl)]
        simp only []
        rw [of_yes (all_range same3 (i := f) (by omega))]
  · rw [obj1_err z T (by omega) (by omega) (by omega) (by omega)]
    simp only []
    have hs := of_yes (all_range same4 (i := f) (by omega))
    by_cases h1 : T ≤ (f : Int)
    · rw [if_pos (decide_eq_true h1), if_pos trivial, placed_at 104 (f : Int) (.inr rfl)]
      simp only []
      rw [hs]
    · rw [if_neg (by simpa using h1), if_pos (decide_eq_true (show T ≥ ((i + 2 : Nat) : Int) by omega)), if_pos trivial, placed_at 104 (f : Int) (.inr rfl)]
      simp only []
      rw [hs]
end Go.Proofs.YtnfhfbdnpfgimaaDoor.Pure
