/- CodeBounds, in plain words. By this session. -/
import Derived.Test.YtjccbolnjnefiaaDoorCATCodeBounds
import Derived.Test.YtjccbolnjnefiaaDoorKTCodeBoundsR
namespace Go.Proofs.YtjccbolnjnefiaaDoor.Pure
open Go.RowKit Go.Proofs.YtjccbolnjnefiaaDoor.Pl Go.Proofs.YtjccbolnjnefiaaDoor.CATCodeBounds Go.Proofs.YtjccbolnjnefiaaDoor.KTCodeBounds Go.Proofs.YtjccbolnjnefiaaDoorW.PrintWords Go.Proofs.YtjccbolnjnefiaaDoorW.PrintLast Go.Proofs.YtjccbolnjnefiaaDoorW.PrintMore
set_option linter.unusedVariables false
theorem number_b (x m : Int) (hm : 0 < m) : -m < Int.tmod x m ∧ Int.tmod x m < m := by
  refine ⟨?_, Int.tmod_lt_of_pos x hm⟩
  have h := Int.natAbs_tmod x m
  have h2 : (Int.tmod x m).natAbs < m.natAbs := by
    rw [h]
    exact Nat.mod_lt _ (by omega)
  omega
theorem number_ok (x m : Int) (hm : 0 < m) (hm1 : m < 4611686018427387904) : ∃ r, pendulumworld_Number.f x m = some r ∧ 0 ≤ r ∧ r < m := by
  have h := number_b x m hm
  unfold pendulumworld_Number.f
  rw [if_neg (by omega)]
  by_cases h0 : Int.tmod x m < 0
  · rw [if_pos h0, wrap64_id (by omega) (by omega)]
    exact ⟨_, rfl, by omega, by omega⟩
  · rw [if_neg h0]
    exact ⟨_, rfl, by omega, by omega⟩
theorem first_ans : Ans (fun k => pendulumlaw21_first.f k) true := Ans.of_mono (m := 100) pendulumlaw21_first.mono (by kernel_rfl)
/-- What is amiss with the law's object. -/
def amiss (s : ByteArray) (m : Nat) (r a : Int) : Option Int :=
  if (200 : Int) < s.size then some 109 else if 64 < m then some 103 else if r < 0 ∨ 1024 < r then some 104 else if a < -1 ∨ 1048576 < a then some 104 else none
theorem w01 : wrap64 (0 + 1) = 1 := by unfold wrap64; rfl
theorem fits_ans (s : ByteArray) (m : Nat) (r a : Int) (hm : m < 100) : Ans (fun k => code_fits.f k s (List.replicate m 1) [] r [] [] [⟨12, a, 0, 0, 0, 0⟩]) (amiss s m r a) := by
  unfold code_fits.f amiss
  refine Ans.succ (fun k => by simp only [code_fits.l0]; rw [if_neg (by simp)]) ?_
  refine Ans.succ (fun k => by simp only [code_fits.l1]; rw [if_neg (by simp)]) ?_
  have e1 : slices_ContainsLong.f [s] = some (decide ((200 : Int) < s.size)) := by simp [slices_ContainsLong.f, longName]
  refine Ans.bind (Ans.of_eq fun _ => e1) ?_
  by_cases h1 : (200 : Int) < s.size
  · rw [if_pos h1]
    exact Ans.ite_pos (by simp [h1]) (Ans.some _)
  rw [if_neg h1]
  refine Ans.ite_neg (by simp [h1]) ?_
  by_cases h2 : 64 < m
  · rw [if_pos h2]
    refine Ans.ite_pos (by simp; omega) ?_
    exact Ans.succ (fun k => by simp only [code_fits.j2]; rw [if_pos trivial]) (Ans.some _)
  rw [if_neg h2]
  refine Ans.ite_neg (by simp; omega) (Ans.ite_neg (by simp) (Ans.ite_neg (by simp) (Ans.ite_neg (by simp) ?_)))
  rw [show decide ((([⟨12, a, 0, 0, 0, 0⟩] : List S26).length : Int) > 4096) = false from rfl]
  refine Ans.succ (fun k => by simp only [code_fits.j2]; rw [if_neg (by simp)]) ?_
  have e2 : slices_ConcatInt.f [List.replicate m 1, []] = some (List.replicate m 1) := by
    rw [slices_ConcatInt.f, if_pos (by simp; omega)]
    simp
  refine Ans.bind (Ans.of_eq fun _ => e2) ?_
  refine Ans.succ (fun k => by simp only [code_fits.l2]; rw [if_neg (by simp)]) ?_
  have htrue : ∀ c, Ans (fun k => code_fits.j4 k true s (List.replicate m 1) [] r [] [] c) (some 104) := fun c => Ans.succ (fun k => by simp only [code_fits.j4]; rw [if_pos trivial]) (Ans.some _)
  by_cases h3 : r < 0
  · rw [if_pos (.inl h3)]
    exact Ans.ite_pos h3 (htrue _)
  by_cases h4 : 1024 < r
  · rw [if_pos (.inr h4)]
    exact Ans.ite_neg h3 (Ans.ite_pos h4 (htrue _))
  rw [if_neg (by omega)]
  refine Ans.ite_neg h3 (Ans.ite_neg h4 ?_)
  have e3 : slices_ContainsType.f (List.replicate m 1) = some false := by
    rw [slices_ContainsType.f]
    congr 1
    rw [List.any_eq_false]
    intro x hx
    rw [(List.mem_replicate.1 hx).2]
    decide
  refine Ans.bind (Ans.of_eq fun _ => e3) ?_
  refine Ans.succ (fun k => by simp only [code_fits.j4]; rw [if_neg (by simp)]) ?_
  have e4 : slices_ContainsOut.f [a, 0, 0, 0] = some (decide (a < -1 ∨ 1048576 < a)) := by
    rw [slices_ContainsOut.f]
    congr 1
    simp [outOf]
  refine Ans.succ (fun k => by simp only [code_fits.l3]; rw [if_pos (by simp), if_pos (by omega), if_pos (by simp)]) ?_
  refine Ans.ite_neg (show ¬ (12 : Int) < 1 by decide) (Ans.ite_neg (show ¬ (12 : Int) > 12 by decide) ?_)
  refine Ans.bind (Ans.of_eq fun _ => e4) ?_
  by_cases h5 : a < -1 ∨ 1048576 < a
  · rw [if_pos h5]
    exact Ans.ite_pos (decide_eq_true h5) (Ans.some _)
  rw [if_neg h5]
  refine Ans.ite_neg (by simp [h5]) ?_
  exact Ans.succ (fun k => by simp only [code_fits.l3]; rw [if_neg (by rw [w01]; simp)]) (Ans.some _)
theorem bytes_ans (s : ByteArray) (m : Nat) (r a : Int) (hs : s.size < 1000) (hm : m < 100) (hr : -9223372036854775808 ≤ r ∧ r ≤ 9223372036854775807) (ha : -9223372036854775808 ≤ a ∧ a ≤ 9223372036854775807) :
    ∃ b, Ans (fun k => code_Bytes.f k s (List.replicate m 1) [] r [] [] [⟨12, a, 0, 0, 0, 0⟩]) (b, amiss s m r a) := by
  have hf := fits_ans s m r a hm
  cases he : amiss s m r a with
  | some c =>
    rw [he] at hf
    refine ⟨[], ?_⟩
    unfold code_Bytes.f
    refine Ans.bind hf ?_
    exact Ans.ite_neg (by simp) (Ans.some _)
  | none =>
    rw [he] at hf
    have ht := txt_len s
    have hx1 := nums_len [((List.replicate m (1 : Int)).length : Int)]
    have hx2 := nums_len (List.replicate m (1 : Int))
    have hx3 := nums_len [(([] : List Int).length : Int)]
    have hx4 := nums_len ([] : List Int)
    have hx5 := nums_len [r, (([] : List S51).length : Int)]
    have hx6 := nums_len [(([] : List S54).length : Int)]
    have hx7 := nums_len [(([⟨12, a, 0, 0, 0, 0⟩] : List S26).length : Int)]
    have hx8 := nums_len [12, a, 0, 0, 0]
    have hx9 := (enc_len 0).2
    have hy1 := nums_len [(0 : Int)]
    have hy2 := nums_len [r, (0 : Int)]
    have hy3 := nums_len [(1 : Int)]
    have hy4 := nums_len [(m : Int)]
    simp only [List.length_cons, List.length_nil] at hy1 hy2 hy3 hy4
    simp only [List.length_cons, List.length_nil, List.length_replicate] at hx1 hx2 hx3 hx4 hx5 hx6 hx7 hx8
    have one : ∀ n : Int, -9223372036854775808 ≤ n ∧ n ≤ 9223372036854775807 → ∀ y ∈ [n], -9223372036854775808 ≤ y ∧ y ≤ 9223372036854775807 := by
      intro n hn y hy
      rw [List.mem_singleton.1 hy]
      exact hn
    apply Exists.intro
    unfold code_Bytes.f
    refine Ans.bind hf ?_
    refine Ans.ite_pos rfl ?_
    refine Ans.bind (text_ans [] s (by simp; omega)) ?_
    refine Ans.bind (cput_ans _ _ (one _ (by simp; omega)) (by simp) (by simp; omega)) ?_
    refine Ans.bind (cput_ans _ _ (fun y hy => by rw [(List.mem_replicate.1 hy).2]; omega) (by simp; omega) (by simp; omega)) ?_
    refine Ans.bind (cput_ans _ _ (one _ (by simp)) (by simp) (by simp; omega)) ?_
    refine Ans.bind (cput_ans _ _ (by simp) (by simp) (by simp; omega)) ?_
    refine Ans.bind (cput_ans _ _ (by intro y hy; simp at hy; rcases hy with rfl | rfl <;> omega) (by simp) (by simp; omega)) ?_
    refine Ans.succ (fun k => by simp only [code_Bytes.l0]; rw [if_neg (by simp)]) ?_
    refine Ans.bind (cput_ans _ _ (one _ (by simp)) (by simp) (by simp; omega)) ?_
    refine Ans.succ (fun k => by simp only [code_Bytes.l1]; rw [if_neg (by simp)]) ?_
    refine Ans.bind (cput_ans _ _ (one _ (by simp)) (by simp) (by simp; omega)) ?_
    refine Ans.succ (fun k => by simp only [code_Bytes.l2]; rw [if_pos (by simp), if_pos (by omega), if_pos (by simp)]) ?_
    refine Ans.bind (cput_ans _ [12, a, 0, 0, 0] (by intro y hy; simp at hy; rcases hy with rfl | rfl | rfl <;> omega) (by simp) (by simp; omega)) ?_
    refine Ans.bind (Put_ans (n := 0) (by omega) (by omega) [] (by simp)) ?_
    refine Ans.ite_pos (by simp; omega) ?_
    exact Ans.succ (fun k => by simp only [code_Bytes.l2]; rw [if_neg (by rw [w01]; simp)]) (Ans.some _)
theorem CodeBounds : pendulumlaw21_CodeBounds.Pure := by
  intro a0 a1 r a h0 h1 hr ha
  refine Ans.exists ?_
  unfold pendulumlaw21_CodeBounds.f
  refine Ans.bind first_ans ?_
  refine Ans.ite_pos rfl ?_
  obtain ⟨n, hn, n0, n1⟩ := number_ok a0 260 (by omega) (by omega)
  obtain ⟨m, hm, m0, m1⟩ := number_ok a1 80 (by omega) (by omega)
  refine Ans.bind (Ans.of_eq fun _ => hn) ?_
  refine Ans.bind (Ans.of_eq fun _ => hm) ?_
  refine Ans.ite_pos n0 (Ans.ite_pos (by omega) ?_)
  obtain ⟨q, rfl⟩ := Int.eq_ofNat_of_zero_le m0
  obtain ⟨s, hs⟩ : ∃ s, strOfNums (List.replicate n.toNat 0) = s := ⟨_, rfl⟩
  have hsz : (s.size : Int) = n := by rw [← hs, strOfNums_size, List.length_replicate]; omega
  rw [hs]
  have hloop : ∀ d i : Nat, i + d = q → Ans (fun k => pendulumlaw21_CodeBounds.l0 k n (q : Int) r a true (i : Int) s (List.replicate i 1) r [⟨12, a, 0, 0, 0, 0⟩]) true := by
    intro d
    induction d with
    | zero =>
      intro i hi
      obtain rfl : i = q := by omega
      refine Ans.succ (fun k => by simp only [pendulumlaw21_CodeBounds.l0]; rw [if_neg (by omega)]) ?_
      obtain ⟨b, hb⟩ := bytes_ans s i r a (by omega) (by omega) (wf64 hr) (wf64 ha)
      refine Ans.bind hb ?_
      refine Ans.of_eq fun k => ?_
      by_cases c1 : (200 : Int) < s.size
      · have e : amiss s i r a = some 109 := by unfold amiss; rw [if_pos c1]
        rw [e, if_pos (show n > 200 by omega)]
        rfl
      rw [if_neg (show ¬ n > 200 by omega)]
      by_cases c2 : 64 < i
      · have e : amiss s i r a = some 103 := by unfold amiss; rw [if_neg c1, if_pos c2]
        rw [e, if_pos (show (i : Int) > 64 by omega)]
        rfl
      rw [if_neg (show ¬ (i : Int) > 64 by omega)]
      by_cases c3 : r < 0
      · have e : amiss s i r a = some 104 := by unfold amiss; rw [if_neg c1, if_neg c2, if_pos (.inl c3)]
        rw [e, if_pos c3]
        rfl
      rw [if_neg c3]
      by_cases c4 : r > 1024
      · have e : amiss s i r a = some 104 := by unfold amiss; rw [if_neg c1, if_neg c2, if_pos (.inr c4)]
        rw [e, if_pos c4]
        rfl
      rw [if_neg c4]
      have c34 : ¬ (r < 0 ∨ 1024 < r) := fun h => h.elim c3 c4
      by_cases c5 : a < -1
      · have e : amiss s i r a = some 104 := by unfold amiss; rw [if_neg c1, if_neg c2, if_neg c34, if_pos (.inl c5)]
        rw [e, if_pos c5]
        rfl
      rw [if_neg c5]
      by_cases c6 : a > 1048576
      · have e : amiss s i r a = some 104 := by unfold amiss; rw [if_neg c1, if_neg c2, if_neg c34, if_pos (.inr c6)]
        rw [e, if_pos c6]
        rfl
      rw [if_neg c6]
      have e : amiss s i r a = none := by unfold amiss; rw [if_neg c1, if_neg c2, if_neg c34, if_neg (fun h => h.elim c5 c6)]
      rw [e]
      rfl
    | succ d ih =>
      intro i hi
      refine Ans.succ (fun k => by simp only [pendulumlaw21_CodeBounds.l0]; rw [if_pos (by omega), if_pos (by simp; omega)]) ?_
      rw [Go.Proofs.YtjccbolnjnefiaaDoor.Pl.up i (by omega), ← List.replicate_succ']
      exact ih (i + 1) (by omega)
  exact hloop q 0 (by omega)
end Go.Proofs.YtjccbolnjnefiaaDoor.Pure
