/- ShowForms, in plain words. -/
import Derived.Test.YtgmnklfbmbahcaaDoorTShowFormsA
set_option linter.unusedSimpArgs false
set_option linter.unusedVariables false
namespace Go.Proofs.YtgmnklfbmbahcaaDoor.TShowFormsA
open Go.RowKit Go.Proofs.YtgmnklfbmbahcaaDoor.KTShowForms Go.Proofs.YtgmnklfbmbahcaaDoor.Pl Go.Proofs.YtgmnklfbmbahcaaDoorW.PrintWords Go.Proofs.YtgmnklfbmbahcaaDoorW.PrintLast Go.Proofs.YtgmnklfbmbahcaaDoorW.PrintMore

theorem number_f (a n : Int) (h0 : 0 < n) (h1 : n < 4611686018427387904) : ∃ t, pendulumworld_Number.f a n = some t ∧ 0 ≤ t ∧ t < n := by
  have hu := Int.tmod_lt_of_pos a h0
  have hl := Int.lt_tmod_of_pos a h0
  unfold pendulumworld_Number.f
  rw [if_neg (by omega)]
  by_cases h : Int.tmod a n < 0
  · rw [if_pos h]
    refine ⟨_, rfl, ?_⟩
    unfold wrap64
    omega
  · rw [if_neg h]
    exact ⟨_, rfl, by omega, hu⟩

theorem first_ans : Ans (fun k => pendulumlaw8_first.f k) true := by
  unfold pendulumlaw8_first.f
  have hv : Sh ⟨3, 0, 0, ⟨#[97]⟩, []⟩ ⟨#[97]⟩ := sh_var 0 0 _ []
  have hi : Sh ⟨1, 0, 1, ⟨#[]⟩, []⟩ ⟨(Lib.itoa 1).toArray⟩ := sh_int 0 1 _ [] (by decide) (by decide)
  have e1 : (⟨(Lib.itoa 1).toArray⟩ : ByteArray) = ⟨#[49]⟩ := by
    rw [show Lib.itoa 1 = Lib.decDigits 1 from Lib.itoa_nonneg 1, Lib.decDigits_one (by omega)]; rfl
  rw [e1] at hi
  have hb : Sh ⟨3, 0, 0, ⟨#[98]⟩, []⟩ ⟨#[98]⟩ := sh_var 0 0 _ []
  have ha := sh_two 6 0 0 ⟨#[]⟩ _ _ [] _ _ ⟨#[43]⟩ hv hi (by decide) (by decide) (few_ans 6 2 10 (by kernel_rfl)) (Ans.of_mono (m := 10) (fun k => show_Sign.mono _ k) (by kernel_rfl)) (by decide) (by decide)
  have hn := sh_neg 0 0 ⟨#[]⟩ _ [] _ hb (by decide)
  have hm := sh_two 8 0 0 ⟨#[]⟩ _ _ [] _ _ ⟨#[42]⟩ ha hn (by decide +kernel) (by decide +kernel) (few_ans 8 2 10 (by kernel_rfl)) (Ans.of_mono (m := 10) (fun k => show_Sign.mono _ k) (by kernel_rfl)) (by decide) (by decide)
  refine Ans.bind hm ?_
  exact Ans.of_eq fun _ => by
    rw [Go.ByteArray.toList_eq]
    kernel_rfl

theorem data_append' (a b : ByteArray) : (a ++ b).data.toList = a.data.toList ++ b.data.toList := by rw [ByteArray.data_append, Array.toList_append]
def signs : List ByteArray := [(⟨#[43]⟩ : ByteArray), (⟨#[45]⟩ : ByteArray), (⟨#[42]⟩ : ByteArray), (⟨#[47]⟩ : ByteArray), (⟨#[109, 111, 100]⟩ : ByteArray), (⟨#[97, 110, 100]⟩ : ByteArray), (⟨#[111, 114]⟩ : ByteArray), (⟨#[120, 111, 114]⟩ : ByteArray), (⟨#[61]⟩ : ByteArray), (⟨#[60, 62]⟩ : ByteArray), (⟨#[60]⟩ : ByteArray), (⟨#[60, 61]⟩ : ByteArray), (⟨#[62]⟩ : ByteArray), (⟨#[62, 61]⟩ : ByteArray)]
theorem few_two (i : Nat) (h : i < 14) : show_few.f 10 (6 + (i : Int)) = some 2 := by
  have : ∀ j : Fin 14, show_few.f 10 (6 + ((j.1 : Nat) : Int)) = some 2 := by decide +kernel
  exact this ⟨i, h⟩
theorem sign_two (i : Nat) (h : i < 14) : show_Sign.f 10 (6 + (i : Int)) = some (signs.getD i ByteArray.empty) := by
  have : ∀ j : Fin 14, (show_Sign.f 10 (6 + ((j.1 : Nat) : Int))).map (·.data.toList) = some ((signs.getD j.1 ByteArray.empty).data.toList) := by decide +kernel
  have h1 := this ⟨i, h⟩
  cases hs : show_Sign.f 10 (6 + (i : Int)) with
  | none => rw [hs] at h1; cases h1
  | some x =>
    rw [hs] at h1
    have h2 : x.data.toList = (signs.getD i ByteArray.empty).data.toList := Option.some.inj h1
    obtain ⟨⟨x⟩⟩ := x
    generalize signs.getD i ByteArray.empty = y at h2 ⊢
    obtain ⟨⟨y⟩⟩ := y
    have h3 : x = y := h2
    rw [h3]
theorem sign_size (i : Nat) (h : i < 14) : (signs.getD i ByteArray.empty).size ≤ 3 := by
  have : ∀ j : Fin 14, (signs.getD j.1 ByteArray.empty).size ≤ 3 := by decide +kernel
  exact this ⟨i, h⟩

theorem one_num (d : Nat) (h : d < 10) : strOfNums [(wrap64 (48 + (d : Int))) % 256] = ⟨#[UInt8.ofNat (48 + d)]⟩ := by
  have : ∀ j : Fin 10, (strOfNums [(wrap64 (48 + ((j.1 : Nat) : Int))) % 256]).data.toList = [UInt8.ofNat (48 + j.1)] := by decide +kernel
  have h1 := this ⟨d, h⟩
  generalize strOfNums [(wrap64 (48 + (d : Int))) % 256] = y at h1 ⊢
  obtain ⟨⟨y⟩⟩ := y
  have h2 : y = [UInt8.ofNat (48 + d)] := h1
  rw [h2]
theorem digits_ans (u : Nat) (hu : u < 9223372036854775808) : Ans (fun k => pendulumlaw8_digits.f k (u : Int)) ⟨(Lib.decDigits u).toArray⟩ := by
  induction u using Nat.strongRecOn with
  | ind u ih =>
    rw [Lib.decDigits]
    by_cases h : u < 10
    · rw [dif_pos h]
      refine Ans.succ (fun k => by simp only [pendulumlaw8_digits.f]; rfl) ?_
      refine Ans.ite_pos (by omega) ?_
      rw [one_num u h]
      exact Ans.some _
    · rw [dif_neg h]
      have e1 : wrap64 (Int.tdiv (u : Int) 10) = ((u / 10 : Nat) : Int) := by
        rw [show Int.tdiv (u : Int) 10 = ((u / 10 : Nat) : Int) from rfl]
        exact wrap64_id (by omega) (by omega)
      have e2 : Int.tmod (u : Int) 10 = ((u % 10 : Nat) : Int) := rfl
      have hl := Lib.itoa_length_le ((u / 10 : Nat) : Int) (by omega) (by omega)
      rw [Lib.itoa_nonneg] at hl
      refine Ans.succ (fun k => by simp only [pendulumlaw8_digits.f, e1, e2]; rfl) ?_
      refine Ans.ite_neg (by omega) ?_
      refine Ans.bind (ih (u / 10) (by omega) (by omega)) ?_
      refine Ans.bind (Ans.some _) ?_
      rw [one_num (u % 10) (Nat.mod_lt _ (by omega))]
      have sz : (⟨(Lib.decDigits (u / 10)).toArray⟩ : ByteArray).size = (Lib.decDigits (u / 10)).length := by simp [ByteArray.size]
      refine Ans.ite_pos (by rw [sz, show (⟨#[UInt8.ofNat (48 + u % 10)]⟩ : ByteArray).size = 1 from rfl]; omega) ?_
      refine Ans.of_eq fun _ => ?_
      first | rfl | (congr 1; apply ByteArray.ext; rw [ByteArray.data_append]; simp) | (congr 1; apply ByteArray.ext; simp) | congr 1

theorem forms_j0 (x n : Int) (h0 : 0 ≤ n) (h1 : n ≤ 9223372036854775807) : Ans (fun k => pendulumlaw8_ShowForms.j0 k x n true) true := by
  obtain ⟨t, ht, ht0, ht1⟩ := number_f x 14 (by decide) (by decide)
  obtain ⟨i, rfl⟩ := Int.eq_ofNat_of_zero_le ht0
  obtain ⟨u, rfl⟩ := Int.eq_ofNat_of_zero_le h0
  have hi : i < 14 := by omega
  have hs := sign_size i hi
  have hv : Sh ⟨3, 0, 0, ⟨#[97]⟩, []⟩ ⟨#[97]⟩ := sh_var 0 0 _ []
  have hb : Sh ⟨2, 0, 1, ⟨#[]⟩, []⟩ ⟨#[116, 114, 117, 101]⟩ := sh_bool 0 1 ⟨#[]⟩ []
  have two := sh_two (6 + (i : Int)) 0 0 ⟨#[]⟩ _ _ [] _ _ (signs.getD i ByteArray.empty) hv hb (by decide) (by decide) (few_ans _ 2 10 (few_two i hi)) (Ans.of_mono (m := 10) (fun k => show_Sign.mono _ k) (sign_two i hi)) (by omega) (by omega)
  have iff := sh_if 0 0 ⟨#[]⟩ _ _ _ [] _ _ _ hb hv hv (by decide) (by decide) (by decide)
  have whn := sh_when 0 0 ⟨#[99]⟩ _ [] _ hv (by decide) (by decide)
  have add := sh_two 6 0 0 ⟨#[]⟩ _ _ [] _ _ ⟨#[43]⟩ hv hv (by decide) (by decide) (few_ans 6 2 10 (by kernel_rfl)) (Ans.of_mono (m := 10) (fun k => show_Sign.mono _ k) (by kernel_rfl)) (by decide) (by decide)
  have mrg := sh_merge 0 0 ⟨#[99]⟩ _ _ [] _ _ hv add (by decide) (by decide +kernel) (by decide)
  have prE := sh_pre 0 0 ⟨#[]⟩ _ [] _ hv (by decide)
  have num := sh_int 0 (u : Int) ⟨#[]⟩ [] (by omega) h1
  rw [Lib.itoa_nonneg] at num
  refine Ans.succ (fun k => by simp only [pendulumlaw8_ShowForms.j0, ht, Option.bind_some]; rw [show wrap64 (6 + (i : Int)) = 6 + (i : Int) from wrap64_id (by omega) (by omega)]) ?_
  refine Ans.bind two ?_
  refine Ans.bind iff ?_
  refine Ans.bind whn ?_
  refine Ans.bind mrg ?_
  refine Ans.ite_pos trivial (Ans.ite_pos (by omega) (Ans.ite_pos (by show (i : Int) < 14; omega) ?_))
  have hrd : rdOf ByteArray.empty signs (i : Int) = signs.getD i ByteArray.empty := rfl
  refine Ans.ite_pos (by show 2 + (rdOf ByteArray.empty signs (i : Int)).size ≤ _; rw [hrd]; omega) ?_
  refine Ans.ite_pos (by show ((⟨#[97, 32]⟩ : ByteArray) ++ rdOf ByteArray.empty signs (i : Int)).size + 5 ≤ _; rw [hrd, ByteArray.size_append, show (⟨#[97, 32]⟩ : ByteArray).size = 2 from rfl]; omega) ?_
  refine Ans.ite_pos (by
    show _ = (((⟨#[97, 32]⟩ : ByteArray) ++ rdOf ByteArray.empty signs (i : Int)) ++ (⟨#[32, 116, 114, 117, 101]⟩ : ByteArray)).toList
    rw [hrd, Go.ByteArray.toList_eq, Go.ByteArray.toList_eq]
    generalize signs.getD i ByteArray.empty = g
    have a1 : inn 3 (⟨#[97]⟩ : ByteArray) = ⟨#[97]⟩ := rfl
    have a2 : inn 2 (⟨#[116, 114, 117, 101]⟩ : ByteArray) = ⟨#[116, 114, 117, 101]⟩ := rfl
    simp only [a1, a2, data_append', List.append_assoc]
    rfl) ?_
  refine Ans.ite_pos (by rw [Go.ByteArray.toList_eq]; kernel_rfl) (Ans.ite_pos (by rw [Go.ByteArray.toList_eq]; kernel_rfl) (Ans.ite_pos (by rw [Go.ByteArray.toList_eq]; kernel_rfl) ?_))
  refine Ans.bind num ?_
  refine Ans.bind (digits_ans u (by omega)) ?_
  refine Ans.ite_pos rfl ?_
  refine Ans.bind prE ?_
  exact Ans.of_eq fun _ => by
    rw [Go.ByteArray.toList_eq]
    kernel_rfl

theorem ShowForms : pendulumlaw8_ShowForms.Pure := by
  intro a n _ hn
  have hn := wf64 hn
  refine Ans.exists ?_
  unfold pendulumlaw8_ShowForms.f
  refine Ans.bind first_ans ?_
  refine Ans.ite_pos rfl ?_
  refine Ans.ite (fun h => ?_) (fun h => forms_j0 a n (by omega) hn.2)
  have e1 : wrap64 (n + 1) = n + 1 := wrap64_id (by omega) (by omega)
  have e2 : wrap64 (-(n + 1)) = -(n + 1) := wrap64_id (by omega) (by omega)
  rw [e1, e2]
  exact forms_j0 a _ (by omega) (by omega)
end Go.Proofs.YtgmnklfbmbahcaaDoor.TShowFormsA
namespace Go.Proofs.YtgmnklfbmbahcaaDoor.Pure
theorem ShowForms : KTShowForms.pendulumlaw8_ShowForms.Pure := TShowFormsA.ShowForms
end Go.Proofs.YtgmnklfbmbahcaaDoor.Pure
