/- ShowBrackets, in plain words. -/
import Derived.Test.YtgmnklfbmbahcaaDoorTShowBracketsA
set_option linter.unusedSimpArgs false
set_option linter.unusedVariables false
namespace Go.Proofs.YtgmnklfbmbahcaaDoor.TShowBracketsA
open Go.RowKit Go.Proofs.YtgmnklfbmbahcaaDoor.KTShowBrackets Go.Proofs.YtgmnklfbmbahcaaDoor.Pl Go.Proofs.YtgmnklfbmbahcaaDoorW.PrintWords Go.Proofs.YtgmnklfbmbahcaaDoorW.PrintLast Go.Proofs.YtgmnklfbmbahcaaDoorW.PrintMore

theorem number_f (a n : Int) (h0 : 0 < n) (h1 : n < 4611686018427387904) : ∃ t, pendulumworld_Number.f a n = some t ∧ 0 ≤ t ∧ t < n := by
  have hu := Int.tmod_lt_of_pos a h0
  have hl := Int.lt_tmod_of_pos a h0
  unfold pendulumworld_Number.f
  rw [if_neg (by omega)]
  by_cases h : Int.tmod a n < 0
  · rw [if_pos h]
    refine ⟨_, rfl, ?_⟩
    unfold wrap64
    omega
  · rw [if_neg h]
    exact ⟨_, rfl, by omega, hu⟩

def cnt (t : ByteArray) : Nat := t.data.toList.count 40
theorem cnt_append (a b : ByteArray) : cnt (a ++ b) = cnt a + cnt b := by
  unfold cnt
  rw [ByteArray.data_append, Array.toList_append, List.count_append]
theorem cnt_inn (op : Int) (t : ByteArray) : cnt (inn op t) = cnt t + (if atom op = true then 0 else 1) := by
  unfold inn
  split
  · rfl
  · rw [cnt_append, cnt_append]
    have h1 : cnt (⟨#[40]⟩ : ByteArray) = 1 := rfl
    have h2 : cnt (⟨#[41]⟩ : ByteArray) = 0 := rfl
    omega
theorem len_eq (t : ByteArray) : t.data.toList.length = t.size := Array.length_toList
theorem bt_get (s : ByteArray) (i : Nat) (h : i < s.size) : bt s (i : Int) = ((s.data.toList.getD i 0).toNat : Int) := by
  unfold bt
  rw [dif_pos (by simpa using h), List.getD_eq_getElem?_getD, List.getElem?_eq_getElem (by rw [len_eq]; exact h)]
  rfl

theorem count_l1 (x5 : Int) (t : ByteArray) (ht : t.size ≤ 1000000) (d : Nat) : ∀ (i c : Nat), i + d = t.size → c ≤ i → Ans (fun k => pendulumlaw8_ShowBrackets.l1 k x5 t (c : Nat) i) ((((c + (t.data.toList.drop i).count 40 : Nat) : Int)) == x5) := by
  induction d with
  | zero =>
    intro i c hi hc
    rw [List.drop_of_length_le (by rw [len_eq]; omega)]
    exact Ans.succ (fun k => by simp only [pendulumlaw8_ShowBrackets.l1]; rw [if_neg (by omega)]; rfl) (Ans.some _)
  | succ d ih =>
    intro i c hi hc
    have hl := len_eq t
    refine Ans.succ (fun k => by simp only [pendulumlaw8_ShowBrackets.l1]; rw [if_pos (by omega), if_pos (by omega), bt_get t i (by omega), up i (by omega), up c (by omega)]) ?_
    rw [getD_drop _ i 0 (by omega), List.count_cons]
    refine Ans.ite (fun h => ?_) (fun h => ?_)
    · have e : t.data.toList.getD i 0 = 40 := UInt8.toNat_inj.1 (by show _ = 40; omega)
      have := ih (i + 1) (c + 1) (by omega) (by omega)
      rw [e]
      rwa [show c + 1 + List.count 40 (List.drop (i + 1) t.data.toList) = c + (List.count 40 (List.drop (i + 1) t.data.toList) + (if ((40 : UInt8) == 40) = true then 1 else 0)) by simp; omega] at this
    · have e : ¬ t.data.toList.getD i 0 = 40 := fun e => h (by rw [e]; rfl)
      have := ih (i + 1) c (by omega) (by omega)
      rwa [show (if (t.data.toList.getD i 0 == 40) = true then 1 else 0) = 0 by rw [if_neg (by simpa using e)], Nat.add_zero]

theorem first_ans : Ans (fun k => pendulumlaw8_first.f k) true := by
  unfold pendulumlaw8_first.f
  have hv : Sh ⟨3, 0, 0, ⟨#[97]⟩, []⟩ ⟨#[97]⟩ := sh_var 0 0 _ []
  have hi : Sh ⟨1, 0, 1, ⟨#[]⟩, []⟩ ⟨(Lib.itoa 1).toArray⟩ := sh_int 0 1 _ [] (by decide) (by decide)
  have e1 : (⟨(Lib.itoa 1).toArray⟩ : ByteArray) = ⟨#[49]⟩ := by
    rw [show Lib.itoa 1 = Lib.decDigits 1 from Lib.itoa_nonneg 1, Lib.decDigits_one (by omega)]; rfl
  rw [e1] at hi
  have hb : Sh ⟨3, 0, 0, ⟨#[98]⟩, []⟩ ⟨#[98]⟩ := sh_var 0 0 _ []
  have ha := sh_two 6 0 0 ⟨#[]⟩ _ _ [] _ _ ⟨#[43]⟩ hv hi (by decide) (by decide) (few_ans 6 2 10 (by kernel_rfl)) (Ans.of_mono (m := 10) (fun k => show_Sign.mono _ k) (by kernel_rfl)) (by decide) (by decide)
  have hn := sh_neg 0 0 ⟨#[]⟩ _ [] _ hb (by decide)
  have hm := sh_two 8 0 0 ⟨#[]⟩ _ _ [] _ _ ⟨#[42]⟩ ha hn (by decide +kernel) (by decide +kernel) (few_ans 8 2 10 (by kernel_rfl)) (Ans.of_mono (m := 10) (fun k => show_Sign.mono _ k) (by kernel_rfl)) (by decide) (by decide)
  refine Ans.bind hm ?_
  exact Ans.of_eq fun _ => by
    rw [Go.ByteArray.toList_eq]
    kernel_rfl

/-- What was built so far. -/
structure Built (e : S26) (t : ByteArray) (n : Int) (a : Bool) (i : Nat) : Prop where
  sh : Sh e t
  size : t.size ≤ 1 + 40 * i
  count : n = (cnt t : Int)
  atom : a = atom e.f0
  few : cnt t ≤ 2 * i

theorem brackets_end (e : S26) (t : ByteArray) (n : Int) (a : Bool) (l : List Int) (hl : l.length ≤ 15) (hb : Built e t n a l.length) :
    Ans (fun k => pendulumlaw8_ShowBrackets.l0 k l n a (l.length : Nat) e.f0 e.f1 e.f2 e.f3 e.f4) true := by
  refine Ans.succ (fun k => by simp only [pendulumlaw8_ShowBrackets.l0]; rw [if_neg (by omega)]) ?_
  refine Ans.bind hb.sh ?_
  have hs := hb.size
  have := count_l1 n t (by omega) t.size 0 0 (by omega) (by omega)
  rw [hb.count, List.drop_zero, Nat.zero_add] at this
  rw [hb.count]
  rw [show ((((List.count 40 t.data.toList : Nat) : Int)) == (cnt t : Int)) = true by simp [cnt]] at this
  exact this

theorem brackets_l0 (l : List Int) (hl : l.length ≤ 15) (d : Nat) : ∀ (i : Nat) (e : S26) (t : ByteArray) (n : Int) (a : Bool), i + d = l.length → Built e t n a i →
    Ans (fun k => pendulumlaw8_ShowBrackets.l0 k l n a i e.f0 e.f1 e.f2 e.f3 e.f4) true := by
  induction d with
  | zero =>
    intro i e t n a hi hb
    obtain rfl : i = l.length := by omega
    exact brackets_end e t n a l hl hb
  | succ d ih =>
    intro i e t n a hi hb
    obtain ⟨q, hq, hq0, hq1⟩ := number_f (rd l i) 4 (by decide) (by decide)
    have hs := hb.size
    have hf := hb.few
    have hin := inn_size e.f0 t
    have hci := cnt_inn e.f0 t
    have hcl : cnt (inn e.f0 t) ≤ cnt t + 1 := by rw [hci]; split <;> omega
    have eta : (⟨e.f0, e.f1, e.f2, e.f3, e.f4⟩ : S26) = e := by cases e; rfl
    have hn := hb.count
    have j2 : ∀ x8 : Int, x8 = ((if atom e.f0 = true then 0 else 1 : Nat) : Int) → Ans (fun k => pendulumlaw8_ShowBrackets.j2 k l n i x8 e.f0 e.f1 e.f2 e.f3 e.f4) true := by
      intro x8 hx8
      have hci' : n + x8 = (cnt (inn e.f0 t) : Int) := by rw [hn, hx8, hci]; omega
      have hw : wrap64 (n + x8) = n + x8 := wrap64_id (by omega) (by omega)
      refine Ans.succ (fun k => by simp only [pendulumlaw8_ShowBrackets.j2, hq, Option.bind_some]; rw [if_pos (by omega), if_pos (by omega), up i (by omega), hw]) ?_
      rw [eta]
      refine Ans.ite (fun h0 => ?_) (fun h0 => Ans.ite (fun h1 => ?_) (fun h1 => Ans.ite (fun h2 => ?_) (fun h2 => ?_)))
      · refine ih (i + 1) ⟨5, 0, 0, ⟨#[]⟩, [e]⟩ _ (n + x8) _ (by omega) ⟨sh_not 0 0 ⟨#[]⟩ e [] t hb.sh (by omega), ?_, ?_, rfl, ?_⟩
        · rw [ByteArray.size_append, show (⟨#[110, 111, 116, 32]⟩ : ByteArray).size = 4 from rfl]; omega
        · rw [cnt_append, show cnt (⟨#[110, 111, 116, 32]⟩ : ByteArray) = 0 from rfl]; omega
        · rw [cnt_append, show cnt (⟨#[110, 111, 116, 32]⟩ : ByteArray) = 0 from rfl]; omega
      · have e0 : (⟨(Lib.itoa 0).toArray⟩ : ByteArray) = ⟨#[48]⟩ := by
          rw [show Lib.itoa 0 = Lib.decDigits 0 from Lib.itoa_nonneg 0, Lib.decDigits_one (by omega)]; rfl
        have hi0 : Sh ⟨1, 0, 0, ⟨#[]⟩, []⟩ ⟨(Lib.itoa 0).toArray⟩ := sh_int 0 0 _ [] (by decide) (by decide)
        rw [e0] at hi0
        refine ih (i + 1) ⟨22, 0, 0, ⟨#[]⟩, [⟨1, 0, 0, ⟨#[]⟩, []⟩, e]⟩ _ (n + x8) _ (by omega) ⟨sh_two 22 0 0 ⟨#[]⟩ _ e [] _ t ⟨#[45, 62]⟩ hi0 hb.sh (by decide) (by omega) (few_ans 22 2 10 (by kernel_rfl)) (Ans.of_mono (m := 10) (fun k => show_Sign.mono _ k) (by kernel_rfl)) (by decide) (by decide), ?_, ?_, rfl, ?_⟩
        · simp only [ByteArray.size_append, size1]
          rw [show (inn 1 (⟨#[48]⟩ : ByteArray)).size = 1 from rfl, show (⟨#[45, 62]⟩ : ByteArray).size = 2 from rfl]; omega
        · simp only [cnt_append]
          rw [show cnt (inn 1 (⟨#[48]⟩ : ByteArray)) = 0 from rfl, show cnt (⟨#[45, 62]⟩ : ByteArray) = 0 from rfl, show cnt (⟨#[32]⟩ : ByteArray) = 0 from rfl]; omega
        · simp only [cnt_append]
          rw [show cnt (inn 1 (⟨#[48]⟩ : ByteArray)) = 0 from rfl, show cnt (⟨#[45, 62]⟩ : ByteArray) = 0 from rfl, show cnt (⟨#[32]⟩ : ByteArray) = 0 from rfl]; omega
      · refine ih (i + 1) ⟨24, 0, 1, ⟨#[99]⟩, [e]⟩ _ (n + x8) _ (by omega) ⟨sh_when 0 1 ⟨#[99]⟩ e [] t hb.sh (by omega) (by decide), ?_, ?_, rfl, ?_⟩
        · rw [if_pos rfl, ByteArray.size_append, show ((⟨#[32, 119, 104, 101, 110, 32]⟩ : ByteArray) ++ ⟨#[99]⟩).size = 7 from rfl]; omega
        · rw [if_pos rfl, cnt_append, show cnt ((⟨#[32, 119, 104, 101, 110, 32]⟩ : ByteArray) ++ ⟨#[99]⟩) = 0 from rfl]; omega
        · rw [if_pos rfl, cnt_append, show cnt ((⟨#[32, 119, 104, 101, 110, 32]⟩ : ByteArray) ++ ⟨#[99]⟩) = 0 from rfl]; omega
      · have hw1 : wrap64 (n + 1) = n + 1 := wrap64_id (by omega) (by omega)
        rw [hw1]
        have hbo : Sh ⟨2, 0, 0, ⟨#[]⟩, []⟩ ⟨#[102, 97, 108, 115, 101]⟩ := sh_bool 0 0 ⟨#[]⟩ []
        refine ih (i + 1) ⟨25, 0, 0, ⟨#[99]⟩, [e, ⟨2, 0, 0, ⟨#[]⟩, []⟩]⟩ _ (n + 1) _ (by omega) ⟨sh_merge 0 0 ⟨#[99]⟩ e _ [] t _ hb.sh hbo (by omega) (by decide) (by decide), ?_, ?_, rfl, ?_⟩
        · simp only [ByteArray.size_append]
          rw [show (⟨#[109, 101, 114, 103, 101, 40]⟩ : ByteArray).size = 6 from rfl, show (⟨#[99]⟩ : ByteArray).size = 1 from rfl, show (⟨#[44, 32]⟩ : ByteArray).size = 2 from rfl, show (⟨#[102, 97, 108, 115, 101]⟩ : ByteArray).size = 5 from rfl, show (⟨#[41]⟩ : ByteArray).size = 1 from rfl]; omega
        · simp only [cnt_append]
          rw [show cnt (⟨#[109, 101, 114, 103, 101, 40]⟩ : ByteArray) = 1 from rfl, show cnt (⟨#[99]⟩ : ByteArray) = 0 from rfl, show cnt (⟨#[44, 32]⟩ : ByteArray) = 0 from rfl, show cnt (⟨#[102, 97, 108, 115, 101]⟩ : ByteArray) = 0 from rfl, show cnt (⟨#[41]⟩ : ByteArray) = 0 from rfl]; omega
        · simp only [cnt_append]
          rw [show cnt (⟨#[109, 101, 114, 103, 101, 40]⟩ : ByteArray) = 1 from rfl, show cnt (⟨#[99]⟩ : ByteArray) = 0 from rfl, show cnt (⟨#[44, 32]⟩ : ByteArray) = 0 from rfl, show cnt (⟨#[102, 97, 108, 115, 101]⟩ : ByteArray) = 0 from rfl, show cnt (⟨#[41]⟩ : ByteArray) = 0 from rfl]; omega
    refine Ans.succ (fun k => by simp only [pendulumlaw8_ShowBrackets.l0]; rw [if_pos (by omega)]) ?_
    refine Ans.ite (fun h => j2 0 ?_) (fun h => j2 1 ?_)
    · rw [if_pos (hb.atom.symm.trans h)]; rfl
    · rw [if_neg (fun h' => h (hb.atom.trans h'))]; rfl

theorem ShowBrackets : pendulumlaw8_ShowBrackets.Pure := by
  intro l hl _
  refine Ans.exists ?_
  unfold pendulumlaw8_ShowBrackets.f
  refine Ans.bind first_ans ?_
  refine Ans.ite_pos rfl ?_
  refine Ans.ite (fun _ => Ans.succ (fun k => by simp only [pendulumlaw8_ShowBrackets.j0, if_true]) (Ans.some _)) (fun h => ?_)
  refine Ans.succ (fun k => by simp only [pendulumlaw8_ShowBrackets.j0]; rfl) ?_
  refine Ans.ite_neg (by simp) ?_
  exact brackets_l0 l (by omega) l.length 0 ⟨3, 0, 0, ⟨#[97]⟩, []⟩ ⟨#[97]⟩ 0 true (by omega) ⟨sh_var 0 0 _ [], by decide, rfl, rfl, by decide⟩
end Go.Proofs.YtgmnklfbmbahcaaDoor.TShowBracketsA
namespace Go.Proofs.YtgmnklfbmbahcaaDoor.Pure
theorem ShowBrackets : KTShowBrackets.pendulumlaw8_ShowBrackets.Pure := TShowBracketsA.ShowBrackets
end Go.Proofs.YtgmnklfbmbahcaaDoor.Pure
