/- MarkTexts: whatever the two marks and the number, the statement answers true. No condition. -/
import Derived.Test.YtbgapakobfpaeaaMarkA
import Derived.Test.YtbgapakobfpaeaaKMarkx3
namespace Go.Proofs.Ytbgapakobfpaeaa.Pure
open Go.RowKit Go.Proofs.Ytbgapakobfpaeaa.KMark Go.Proofs.YtbgapakobfpaeaaW.PrintWords Go.Proofs.YtbgapakobfpaeaaW.PrintLast Go.Proofs.Ytbgapakobfpaeaa.MarkA

theorem less_snoc : ∀ (x y : List UInt8) (c d : UInt8), x.length = y.length → Op.bytesLess (x ++ [c]) (y ++ [d]) = (Op.bytesLess x y || (x == y && decide (c < d)))
  | [], [], c, d, _ => by simp [Op.bytesLess]
  | a :: x, b :: y, c, d, h => by
    have ih := less_snoc x y c d (by simpa using h)
    simp only [List.cons_append, Op.bytesLess, ih]
    by_cases hab : a = b
    · subst hab; simp
    · simp [beq_eq_false_iff_ne.2 hab]
theorem chr_lt : ∀ c d : Fin 16, decide (chr c.1 < chr d.1) = decide (c.1 < d.1) := by decide
theorem less_hex (n : Nat) : ∀ a b : Nat, Op.bytesLess (hexChars n a) (hexChars n b) = decide (a % 16 ^ n < b % 16 ^ n) := by
  induction n with
  | zero => intro a b; simp [hexChars, Op.bytesLess]; omega
  | succ n ih =>
    intro a b
    have hc := chr_lt ⟨a % 16, by omega⟩ ⟨b % 16, by omega⟩
    simp only at hc
    rw [hexChars, hexChars, less_snoc _ _ _ _ (by rw [hexChars_length, hexChars_length]), ih, hc]
    have e : (hexChars n (a / 16) == hexChars n (b / 16)) = decide (a / 16 % 16 ^ n = b / 16 % 16 ^ n) := by
      rw [Bool.eq_iff_iff]
      simp only [beq_iff_eq, decide_eq_true_eq]
      constructor
      · intro h
        rw [← hexChars_val, ← hexChars_val, h]
      · intro h
        have z (m : Nat) : hexChars n (m % 16 ^ n) = hexChars n m := by
          rw [hexChars_range, hexChars_range]
          apply List.map_congr_left
          intro i hi
          have hi := List.mem_range.1 hi
          congr 1
          rw [show 16 ^ n = 16 ^ (n - 1 - i) * 16 ^ (i + 1) by rw [← Nat.pow_add]; congr 1; omega, Nat.mod_mul_right_div_self, Nat.pow_succ, Nat.mul_comm, Nat.mod_mul_right_mod]
        rw [← z (a / 16), ← z (b / 16), h]
    rw [e, Nat.pow_succ, Nat.mul_comm (16 ^ n) 16, Nat.mod_mul, Nat.mod_mul, Bool.eq_iff_iff]
    simp
    omega

theorem read_no (s : ByteArray) (h : s.size ≠ 16 ∨ ∃ c ∈ s.data.toList, ¬ isHex c.toNat) : mark_Read.f s = some (0, false) := by
  unfold mark_Read.f
  rw [if_neg]
  rintro ⟨h1, h2⟩
  rcases h with h | ⟨c, hc, hn⟩
  · exact h h1
  · exact hn (h2 c hc)

theorem MarkTexts : pendulumlaw2_MarkTexts.Pure := by
  intro a b n ha hb hn
  refine ⟨1000, ?_⟩
  have ha' : 0 ≤ a ∧ a ≤ 18446744073709551615 := by simpa [Lit.wf, IntKind.min, IntKind.max, IntKind.bits, IntKind.signed] using ha
  have hb' : 0 ≤ b ∧ b ≤ 18446744073709551615 := by simpa [Lit.wf, IntKind.min, IntKind.max, IntKind.bits, IntKind.signed] using hb
  obtain ⟨x, rfl⟩ := Int.eq_ofNat_of_zero_le ha'.1
  obtain ⟨y, rfl⟩ := Int.eq_ofNat_of_zero_le hb'.1
  have hx : x < 2 ^ 64 := by omega
  have hy : y < 2 ^ 64 := by omega
  obtain ⟨t, ht, ht0, ht1⟩ := number_f n 7 (by omega) (by omega)
  unfold pendulumlaw2_MarkTexts.f
  rw [first_f, Option.bind_some, if_pos rfl, text_f 1000 x hx (by omega), Option.bind_some, text_f 1000 y hy (by omega), Option.bind_some]
  obtain ⟨s, hs⟩ : ∃ s, s = (⟨(hexChars 16 x).toArray⟩ : ByteArray) := ⟨_, rfl⟩
  have hsz : s.size = 16 := by rw [hs]; show (hexChars 16 x).toArray.size = 16; rw [List.size_toArray, hexChars_length]
  have hls : Op.bytesLess (⟨(hexChars 16 x).toArray⟩ : ByteArray).toList (⟨(hexChars 16 y).toArray⟩ : ByteArray).toList = decide ((x : Int) < (y : Int)) := by
    rw [ByteArray.toList_eq, ByteArray.toList_eq]
    show Op.bytesLess (hexChars 16 x) (hexChars 16 y) = _
    rw [less_hex, Nat.mod_eq_of_lt (by omega), Nat.mod_eq_of_lt (by omega), Bool.eq_iff_iff]
    simp
  rw [if_neg (by rw [hls]; simp), ← hs, hsz]
  have e1 : (s.extract 1 16).size = 15 := by rw [ByteArray.size_extract, hsz]; decide
  have e2 : (s.extract 0 15).size = 15 := by rw [ByteArray.size_extract, hsz]; decide
  have e3 : (s.extract 2 16).size = 14 := by rw [ByteArray.size_extract, hsz]; decide
  simp only [pendulumlaw2_MarkTexts.j0]
  rw [if_neg (by simp), hsz, if_pos (by omega), if_pos (by omega), if_pos (by omega), if_pos (by omega), e1, if_pos (by omega), e2, if_pos (by omega), if_pos (by omega), e3, if_pos (by omega), Option.bind_some]
  obtain ⟨l, hl⟩ : ∃ l, l = [s ++ (⟨#[48]⟩ : ByteArray), s.extract 0 15, (⟨#[]⟩ : ByteArray), (⟨#[32]⟩ : ByteArray) ++ (s.extract 1 16), (s.extract 0 15) ++ (⟨#[65]⟩ : ByteArray), (s.extract 0 15) ++ (⟨#[103]⟩ : ByteArray), (⟨#[206, 177]⟩ : ByteArray) ++ (s.extract 2 16)] := ⟨_, rfl⟩
  rw [← hl]
  have hll : (l.length : Int) = 7 := by rw [hl]; rfl
  rw [hll, ht, Option.bind_some, if_pos ht0, if_pos ht1]
  have hall : ∀ z ∈ l, mark_Read.f z = some (0, false) := by
    intro z hz
    rw [hl] at hz
    simp only [List.mem_cons, List.not_mem_nil, or_false] at hz
    have ap (u v : ByteArray) : (u ++ v).data.toList = u.data.toList ++ v.data.toList := by rw [ByteArray.data_append, Array.toList_append]
    rcases hz with rfl | rfl | rfl | rfl | rfl | rfl | rfl
    · exact read_no _ (.inl (by rw [ByteArray.size_append, hsz]; decide))
    · exact read_no _ (.inl (by omega))
    · exact read_no _ (.inl (by decide))
    · exact read_no _ (.inr ⟨32, by rw [ap]; simp, by decide⟩)
    · exact read_no _ (.inr ⟨65, by rw [ap]; simp, by decide⟩)
    · exact read_no _ (.inr ⟨103, by rw [ap]; simp, by decide⟩)
    · exact read_no _ (.inr ⟨206, by rw [ap]; simp, by decide⟩)
  have hmem : rdOf ByteArray.empty l t ∈ l := by
    unfold rdOf
    rw [List.getD_eq_getElem?_getD, List.getElem?_eq_getElem (by omega)]
    exact List.getElem_mem _
  rw [hall _ hmem, Option.bind_some]
  rfl
end Go.Proofs.Ytbgapakobfpaeaa.Pure
