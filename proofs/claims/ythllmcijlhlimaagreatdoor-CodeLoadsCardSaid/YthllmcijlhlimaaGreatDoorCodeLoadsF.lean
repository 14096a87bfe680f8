/- What a reader reads, in plain words: numbers and texts, one behind the other, whole or cut off. By this session. -/
import Derived.Test.YthllmcijlhlimaaGreatDoorCodeLoadsE
namespace Go.Proofs.YthllmcijlhlimaaGreatDoor.Pure
open Go Go.Lib Go.Proofs.YthllmcijlhlimaaGreatDoor.Cm
set_option linter.unusedVariables false
set_option linter.unusedSimpArgs false
/-- What stands before a reader: all of it (and where it ends), or it is cut off. -/
def Ahead (t : Option Nat) (b : List Int) (a : Nat) (E : List Int) : Prop :=
  match t with
  | some m => a + E.length = m ∧ ∃ r, b.drop a = E ++ r
  | none => ∃ j, j < E.length ∧ b.drop a = E.take j
def G (t : Option Nat) (b : List Int) (a : Nat) (e : ErrV) (E : List Int) : Prop :=
  a ≤ b.length ∧ ((t = none ∧ errNil e = false) ∨ (e = .nil ∧ Ahead t b a E))
theorem G.bad {t : Option Nat} {b : List Int} {a a' : Nat} {e e' : ErrV} {E E' : List Int} (g : G t b a e E) (he : errNil e = false) (ha : a' ≤ b.length) (he' : errNil e' = false) : G t b a' e' E' := by
  rcases g.2 with ⟨ht, -⟩ | ⟨h, -⟩
  · exact ⟨ha, .inl ⟨ht, he'⟩⟩
  · rw [h] at he; cases he
theorem errNil_cases (e : ErrV) : e = .nil ∨ (errNil e = false ∧ e ≠ .nil) := by
  cases e with
  | nil => exact .inl rfl
  | sent c => exact .inr ⟨rfl, by intro h; cases h⟩
  | at_ p e => exact .inr ⟨rfl, by intro h; cases h⟩
theorem G.ahead {t : Option Nat} {b : List Int} {a : Nat} {E : List Int} (g : G t b a .nil E) : Ahead t b a E := by
  rcases g.2 with ⟨-, h⟩ | ⟨-, h⟩
  · cases h
  · exact h
theorem G.step {t : Option Nat} {b : List Int} {a : Nat} {A B : List Int} (g : G t b a .nil (A ++ B)) : (∃ r, b.drop a = A ++ r ∧ a + A.length ≤ b.length ∧ G t b (a + A.length) .nil B) ∨ (t = none ∧ ∃ j, j < A.length ∧ b.drop a = A.take j) := by
  have h := g.ahead
  have hd : b.drop (a + A.length) = (b.drop a).drop A.length := by rw [List.drop_drop]
  cases t with
  | some m =>
    obtain ⟨h1, r, h2⟩ := h
    have hl := congrArg List.length h2
    simp only [List.length_drop, List.length_append] at hl h1
    have h0 := g.1
    refine .inl ⟨B ++ r, by rw [h2, List.append_assoc], by omega, by omega, .inr ⟨rfl, by omega, r, ?_⟩⟩
    rw [hd, h2, List.append_assoc, List.drop_left]
  | none =>
    obtain ⟨j, h1, h2⟩ := h
    by_cases hj : j < A.length
    · exact .inr ⟨rfl, j, hj, by rw [h2, List.take_append_of_le_length (by omega)]⟩
    · have e : (A ++ B).take j = A ++ B.take (j - A.length) := by
        rw [List.take_append, List.take_of_length_le (by omega)]
      rw [e] at h2
      have hl := congrArg List.length h2
      simp only [List.length_drop, List.length_append] at hl h1
      have h0 := g.1
      have hal : a + A.length ≤ b.length := by omega
      refine .inl ⟨_, h2, hal, hal, .inr ⟨rfl, j - A.length, by omega, ?_⟩⟩
      rw [hd, h2, List.drop_left]
theorem number_at {n : Nat} (hn : 20 ≤ n) {b : List Int} (hb : b.length < 1000000000) {a : Nat} (ha : a ≤ b.length) (e : ErrV) {v : Int} (hI : I64 v) {r : List Int} (h : b.drop a = enc v ++ r) :
    wire_Reader_number n (((), ()), ((b, (a : Int), e, ()), ())) = some ((((v, ()), (((enc v).length : Int), ()), (ErrV.nil, ()), ()), ()), ((b, (a : Int), e, ()), ())) := by
  obtain ⟨n, rfl⟩ : ∃ m, n = m + 1 := ⟨n - 1, by omega⟩
  have hz := zig_range hI.1 hI.2
  have := number_ok n b hb a ha e 9 0 (zig v) 0 n r rfl hz.1 (by omega) (by decide) (by simpa using hz.2) (fun h => absurd h (by omega)) (by omega) (by rw [Nat.add_zero]; exact h)
  simp only [Int.pow_zero, Int.mul_one, Int.zero_add, unzig_zig, Nat.zero_add] at this
  simp only [wire_Reader_number]
  have e0 : wire_Reader_number_l4 n n (((), 0, 0, ()), ((b, (a : Int), e, ()), ())) = some (.inl ((v, ((enc v).length : Int), ErrV.nil, ()), ((b, (a : Int), e, ()), ()))) := this
  rw [e0]
theorem number_no {n : Nat} (hn : 20 ≤ n) {b : List Int} (hb : b.length < 1000000000) {a : Nat} (ha : a ≤ b.length) (e : ErrV) {v : Int} (hI : I64 v) {j : Nat} (hj : j < (enc v).length) (h : b.drop a = (enc v).take j) :
    wire_Reader_number n (((), ()), ((b, (a : Int), e, ()), ())) = some ((((0, ()), (0, ()), (ErrV.sent 101, ()), ()), ()), ((b, (a : Int), e, ()), ())) := by
  obtain ⟨n, rfl⟩ : ∃ m, n = m + 1 := ⟨n - 1, by omega⟩
  have hz := zig_range hI.1 hI.2
  have := number_cut n b hb a ha e 9 0 (zig v) 0 n j rfl hz.1 (by simpa using hz.2) (by omega) hj (by omega) (by rw [Nat.add_zero]; exact h)
  simp only [wire_Reader_number]
  have e0 : wire_Reader_number_l4 n n (((), 0, 0, ()), ((b, (a : Int), e, ()), ())) = some (.inl ((0, 0, ErrV.sent 101, ()), ((b, (a : Int), e, ()), ()))) := this
  rw [e0]
theorem Num_bad {n : Nat} (hn : 20 ≤ n) (lo hi : Int) (b : List Int) (a : Int) {e : ErrV} (he : errNil e = false) : wire_Reader_Num n (((), lo, hi, ()), ((b, a, e, ()), ())) = some ((0, ()), ((b, a, e, ()), ())) := by
  obtain ⟨n, rfl⟩ : ∃ m, n = m + 1 := ⟨n - 1, by omega⟩
  simp only [wire_Reader_Num, he]
  rfl
/-- A number. -/
theorem Num_at {n : Nat} (hn : 30 ≤ n) {t : Option Nat} {b : List Int} (hb : b.length < 1000000000) {a : Nat} {e : ErrV} {B : List Int} {lo hi v : Int} (hI : I64 v) (h0 : lo ≤ v) (h1 : v ≤ hi) (g : G t b a e (enc v ++ B)) :
    ∃ v' a' e', wire_Reader_Num n (((), lo, hi, ()), ((b, (a : Int), e, ()), ())) = some ((v', ()), ((b, ((a' : Nat) : Int), e', ()), ())) ∧ G t b a' e' B ∧ (e' = .nil → e = .nil ∧ v' = v) := by
  rcases errNil_cases e with rfl | ⟨he, hne⟩
  · obtain ⟨n, rfl⟩ : ∃ m, n = m + 1 := ⟨n - 1, by omega⟩
    have hel := (enc_len v).2
    rcases g.step with ⟨r, h, hl, g2⟩ | ⟨ht, j, hj, h⟩
    · refine ⟨v, a + (enc v).length, .nil, ?_, g2, fun _ => ⟨rfl, rfl⟩⟩
      simp only [wire_Reader_Num, number_at (n := n) (by omega) hb g.1 .nil hI h]
      rw [if_neg (by decide)]
      simp only [wire_Reader_Num_c6]
      rw [if_pos (by decide), if_neg (by simp; exact h0), if_neg (by simp; exact h1)]
      simp only []
      rw [if_neg (by decide), w64_id (by omega) (by omega)]
      rfl
    · refine ⟨0, a, .at_ a (.sent 101), ?_, ⟨g.1, .inl ⟨ht, rfl⟩⟩, fun h => by cases h⟩
      simp only [wire_Reader_Num, number_no (n := n) (by omega) hb g.1 .nil hI hj h]
      rw [if_neg (by decide)]
      simp only [wire_Reader_Num_c6]
      rw [if_neg (by decide)]
      simp only []
      rw [if_pos (by decide)]
      obtain ⟨n, rfl⟩ : ∃ m, n = m + 1 := ⟨n - 1, by omega⟩
      rfl
  · exact ⟨0, a, e, Num_bad (by omega) lo hi b a he, g.bad he g.1 he, fun h => absurd h hne⟩
theorem str_bytes (s : ByteArray) : strOfNums (bytesL s) = s := by
  unfold strOfNums bytesL
  rw [List.map_map]
  have : ((fun n : Int => UInt8.ofNat n.toNat) ∘ fun b : UInt8 => (b.toNat : Int)) = id := by
    funext x
    simp
  rw [this, List.map_id]
/-- A text. -/
theorem Text_at {n : Nat} (hn : 40 ≤ n) {t : Option Nat} {b : List Int} (hb : b.length < 1000000000) {a : Nat} {e : ErrV} {B : List Int} {most : Int} {s : ByteArray} (h1 : (s.size : Int) ≤ most) (hs : s.size ≤ 1000) (g : G t b a e (txt s ++ B)) :
    ∃ v' a' e', wire_Reader_Text n (((), most, ()), ((b, (a : Int), e, ()), ())) = some ((v', ()), ((b, ((a' : Nat) : Int), e', ()), ())) ∧ G t b a' e' B ∧ (e' = .nil → e = .nil ∧ v' = s) := by
  obtain ⟨n, rfl⟩ : ∃ m, n = m + 1 := ⟨n - 1, by omega⟩
  have g1 := g
  rw [txt, List.append_assoc] at g1
  obtain ⟨v, a1, e1, hN, g2, hv⟩ := Num_at (n := n) (by omega) hb (lo := 0) (hi := most) ⟨by omega, by omega⟩ (by omega) h1 g1
  simp only [wire_Reader_Text, hN]
  rcases errNil_cases e1 with rfl | ⟨he, hne⟩
  · obtain ⟨he0, rfl⟩ := hv rfl
    have hL : wire_Reader_Left n (((), ()), ((b, (a1 : Int), ErrV.nil, ()), ())) = some ((((b.length : Int) - (a1 : Int)), ()), ((b, (a1 : Int), ErrV.nil, ()), ())) := by
      obtain ⟨n, rfl⟩ : ∃ m, n = m + 1 := ⟨n - 1, by omega⟩
      simp only [wire_Reader_Left]
      have := g2.1
      rw [w64_id (by omega) (by omega)]
    rw [if_neg (by decide), hL]
    simp only []
    have hbl := bytesL_len s
    rcases g2.step with ⟨r, h, hl, g3⟩ | ⟨ht, j, hj, h⟩
    · refine ⟨s, a1 + (bytesL s).length, .nil, ?_, g3, fun _ => ⟨he0, rfl⟩⟩
      rw [if_neg (by simp; omega)]
      have e1 : IntKind.i64.wrap ((a1 : Int) + (s.size : Int)) = ((a1 + s.size : Nat) : Int) := by rw [w64_id (by omega) (by omega)]; omega
      have e2 : IntKind.i64.wrap (((a1 + s.size : Nat) : Int) - (s.size : Int)) = (a1 : Int) := by rw [w64_id (by omega) (by omega)]; omega
      have e3 : cutL b (a1 : Int) ((a1 + s.size : Nat) : Int) = bytesL s := by
        simp only [cutL, Int.toNat_natCast]
        rw [List.drop_take, h, show a1 + s.size - a1 = (bytesL s).length by omega, List.take_left]
      rw [e1, e2, if_pos ⟨by omega, by omega, by omega⟩, e3, str_bytes, hbl]
    · have hlen := congrArg List.length h
      simp only [List.length_drop, List.length_take] at hlen
      have := g2.1
      refine ⟨⟨#[]⟩, a, .at_ a (.sent 101), ?_, ⟨g.1, .inl ⟨ht, rfl⟩⟩, fun h => by cases h⟩
      rw [if_pos (decide_eq_true (show (s.size : Int) > (b.length : Int) - (a1 : Int) by omega))]
      obtain ⟨n, rfl⟩ : ∃ m, n = m + 1 := ⟨n - 1, by omega⟩
      rfl
  · refine ⟨⟨#[]⟩, a1, e1, ?_, g2.bad he g2.1 he, fun h => absurd h hne⟩
    rw [he, if_pos (by decide)]
theorem any_at {n : Nat} (hn : 40 ≤ n) {t : Option Nat} {b : List Int} (hb : b.length < 1000000000) {a : Nat} {e : ErrV} {B : List Int} {v : Int} (hI : I64 v) (g : G t b a e (enc v ++ B)) :
    ∃ v' a' e', code_any64 n (((), ()), ((b, (a : Int), e, ()), ())) = some ((v', ()), ((b, ((a' : Nat) : Int), e', ()), ())) ∧ G t b a' e' B ∧ (e' = .nil → e = .nil ∧ v' = v) := by
  obtain ⟨n, rfl⟩ : ∃ m, n = m + 1 := ⟨n - 1, by omega⟩
  obtain ⟨v', a', e', h, g2, hv⟩ := Num_at (n := n) (by omega) hb hI hI.1 hI.2 g
  refine ⟨v', a', e', ?_, g2, hv⟩
  simp only [code_any64, h]
theorem Err_at {n : Nat} (hn : 1 ≤ n) (b : List Int) (a : Int) (e : ErrV) : wire_Reader_Err n (((), ()), ((b, a, e, ()), ())) = some ((e, ()), ((b, a, e, ()), ())) := by
  obtain ⟨n, rfl⟩ : ∃ m, n = m + 1 := ⟨n - 1, by omega⟩
  simp only [wire_Reader_Err]
theorem nums_one (a : Int) : nums [a] = enc a := by simp [nums]
theorem nums_two (a b : Int) : nums [a, b] = enc a ++ enc b := by simp [nums]
theorem nums_cons (a : Int) (l : List Int) : nums (a :: l) = enc a ++ nums l := by simp [nums]
end Go.Proofs.YthllmcijlhlimaaGreatDoor.Pure
