/- Numbers as bytes, in plain words: what put lays, what a reader reads of it. By this session. -/
import Derived.Test.YtpiafijccnbdbaaDoorPl
import Derived.Test.YtpiafijccnbdbaaDoorKTWireTwinsx
import Derived.Laws.BitsAllLaws
import Derived.Lib.Zigzag
import Derived.KernelRfl
namespace Go.Proofs.YtpiafijccnbdbaaDoor.WATWireTwins
open Go.RowKit Go.Lib Go.Proofs.YtpiafijccnbdbaaDoor.Pl Go.Proofs.YtpiafijccnbdbaaDoor.KTWireTwins Go.Proofs.YtpiafijccnbdbaaDoorW.PrintWords Go.Proofs.YtpiafijccnbdbaaDoorW.PrintLast Go.Proofs.YtpiafijccnbdbaaDoorW.PrintMore
set_option linter.unusedVariables false
/-- A number's unsigned form. -/
def zig (n : Int) : Int := if 0 ≤ n then 2 * n else -(2 * n) - 1
theorem zig_range {n : Int} (h0 : -9223372036854775808 ≤ n) (h1 : n ≤ 9223372036854775807) : 0 ≤ zig n ∧ zig n < 18446744073709551616 := by
  unfold zig
  split <;> omega
theorem unzig_zig (n : Int) : unzig (zig n) = n := by
  unfold unzig zig
  by_cases h : 0 ≤ n
  · rw [if_pos h, if_pos (by omega)]
    omega
  · rw [if_neg h, if_neg (by omega)]
    omega
theorem zig_inj {a b : Int} (h : zig a = zig b) : a = b := by rw [← unzig_zig a, h, unzig_zig]
theorem zig_eq {n : Int} (h0 : -9223372036854775808 ≤ n) (h1 : n ≤ 9223372036854775807) : Go.bits .xor .u64 (IntKind.u64.wrap ((IntKind.u64.wrap n) * 2)) (IntKind.u64.wrap (n / 9223372036854775808)) = zig n := by
  unfold zig
  by_cases h : 0 ≤ n
  · rw [if_pos h, show n / 9223372036854775808 = 0 by omega, show IntKind.u64.wrap 0 = 0 by rw [IntKind.wrap_u64]; rfl, show IntKind.u64.wrap (IntKind.u64.wrap n * 2) = 2 * n by rw [IntKind.wrap_u64, IntKind.wrap_u64]; omega, u64_xor _ _ (by omega) (by omega) (by omega) (by omega)]
    simp
    omega
  · rw [if_neg h, show n / 9223372036854775808 = -1 by omega, show IntKind.u64.wrap (-1) = 18446744073709551615 by rw [IntKind.wrap_u64]; rfl, show IntKind.u64.wrap (IntKind.u64.wrap n * 2) = 2 * n + 18446744073709551616 by rw [IntKind.wrap_u64, IntKind.wrap_u64]; omega, u64_xor _ _ (by omega) (by omega) (by omega) (by omega), Nat.xor_comm, show (18446744073709551615 : Int).toNat = 2 ^ 64 - 1 by decide, xor_ones64 _ (by omega)]
    omega
/-- A number's bytes. -/
def encF : Nat → Int → List Int
  | 0, _ => []
  | k + 1, z => if 128 ≤ z then (z % 128 + 128) :: encF k (z / 128) else [z]
def enc (n : Int) : List Int := encF 10 (zig n)
theorem encF_len : ∀ k z, (encF k z).length ≤ k
  | 0, _ => by simp [encF]
  | k + 1, z => by
    rw [encF]
    split
    · have := encF_len k (z / 128)
      simp only [List.length_cons]
      omega
    · simp
theorem encF_pos (k : Nat) (z : Int) : 0 < (encF (k + 1) z).length := by
  rw [encF]
  split <;> simp
theorem encF_byte : ∀ k z, 0 ≤ z → ∀ c ∈ encF k z, 0 ≤ c ∧ c < 256
  | 0, _, _ => by simp [encF]
  | k + 1, z, hz => by
    rw [encF]
    split
    · intro c hc
      rcases List.mem_cons.1 hc with rfl | hc
      · omega
      · exact encF_byte k (z / 128) (by omega) c hc
    · intro c hc
      simp at hc
      omega
theorem enc_len (n : Int) : 0 < (enc n).length ∧ (enc n).length ≤ 10 := ⟨encF_pos 9 _, encF_len 10 _⟩
theorem enc_byte {n : Int} (h0 : -9223372036854775808 ≤ n) (h1 : n ≤ 9223372036854775807) : ∀ c ∈ enc n, 0 ≤ c ∧ c < 256 := encF_byte 10 _ (zig_range h0 h1).1
set_option maxRecDepth 10000 in
theorem or128 (z : Int) : Go.bits .or .u8 (z % 256) 128 = z % 128 + 128 := by
  obtain ⟨a, ha⟩ := Int.eq_ofNat_of_zero_le (show 0 ≤ z % 256 by omega)
  have hlt : a < 256 := by omega
  rw [u8_or _ _ (by omega) (by omega) (by omega) (by omega), ha]
  have h : ∀ x : Fin 256, x.1 ||| 128 = x.1 % 128 + 128 := by decide
  have h2 := h ⟨a, hlt⟩
  simp only [Int.toNat_natCast] at *
  rw [show ((128 : Int)).toNat = 128 by rfl, h2]
  omega
theorem pow_step (i : Nat) : (128 : Int) ^ (i + 1) = 128 * 128 ^ i := by rw [Int.pow_succ, Int.mul_comm]
theorem pow9 : (128 : Int) ^ 9 = 9223372036854775808 := by decide
theorem scan_encF (k : Nat) : ∀ (i : Nat) (z acc : Int) (rest : List Int), i + k + 1 = 10 → 0 ≤ z → 0 ≤ acc → acc + z * 128 ^ i < 18446744073709551616 → (0 < i → 0 < z) →
    scan (encF (k + 1) z ++ rest) i acc = (0, unzig (acc + z * 128 ^ i), (i : Int) + ((encF (k + 1) z).length : Int)) := by
  induction k with
  | zero =>
    intro i z acc rest hi hz ha hb hp
    obtain rfl : i = 9 := by omega
    rw [pow9] at hb ⊢
    rw [encF, if_neg (by omega), List.singleton_append, scan, if_neg (by omega), if_neg (by omega), if_neg (by have := hp (by omega); omega), pow9, show z % 128 = z by omega]
    rfl
  | succ k ih =>
    intro i z acc rest hi hz ha hb hp
    rw [encF]
    by_cases h : 128 ≤ z
    · rw [if_pos h, List.cons_append, scan, if_neg (by omega), if_pos (by omega), show (z % 128 + 128) % 128 = z % 128 by omega]
      have e : acc + z % 128 * 128 ^ i + z / 128 * 128 ^ (i + 1) = acc + z * 128 ^ i := by
        rw [pow_step, ← Int.mul_assoc, Int.add_assoc, ← Int.add_mul]
        congr 2
        omega
      have hn : 0 ≤ z % 128 * 128 ^ i := Int.mul_nonneg (by omega) (Int.le_of_lt (Int.pow_pos (by decide)))
      rw [ih (i + 1) (z / 128) _ rest (by omega) (by omega) (Int.add_nonneg ha hn) (by rw [e]; exact hb) (fun _ => by omega), e]
      simp only [List.length_cons]
      congr 2
      omega
    · rw [if_neg h, List.singleton_append, scan, if_neg (by omega), if_neg (by omega), if_neg (by intro h0; have := hp h0.2; omega), show z % 128 = z by omega]
      rfl
theorem scan_enc {n : Int} (h0 : -9223372036854775808 ≤ n) (h1 : n ≤ 9223372036854775807) (rest : List Int) : scan (enc n ++ rest) 0 0 = (0, n, ((enc n).length : Int)) := by
  have hz := zig_range h0 h1
  have h := scan_encF 9 0 (zig n) 0 rest rfl hz.1 (by omega) (by simpa using hz.2) (fun h => absurd h (by omega))
  simp only [Int.pow_zero, Int.mul_one, Int.zero_add, unzig_zig] at h
  unfold enc
  rw [h]
  simp
theorem scan_cutF (k : Nat) : ∀ (i : Nat) (z acc : Int) (j : Nat), i + k + 1 = 10 → j < (encF (k + 1) z).length → z * 128 ^ i < 18446744073709551616 → 0 ≤ z → (scan ((encF (k + 1) z).take j) i acc).1 = 101 := by
  induction k with
  | zero =>
    intro i z acc j hi hj hb hz
    obtain rfl : i = 9 := by omega
    rw [pow9] at hb
    rw [encF, if_neg (by omega)] at hj ⊢
    simp at hj
    subst hj
    rfl
  | succ k ih =>
    intro i z acc j hi hj hb hz
    rw [encF] at hj ⊢
    cases j with
    | zero => rfl
    | succ j =>
      by_cases h : 128 ≤ z
      · rw [if_pos h] at hj ⊢
        rw [List.take_succ_cons, scan, if_neg (by omega), if_pos (by omega)]
        refine ih (i + 1) (z / 128) _ j (by omega) (by simpa using hj) ?_ (by omega)
        rw [pow_step, ← Int.mul_assoc]
        refine Int.lt_of_le_of_lt (Int.mul_le_mul_of_nonneg_right (by omega) (Int.le_of_lt (Int.pow_pos (by decide)))) hb
      · rw [if_neg h] at hj
        simp at hj
/-- Cut off, it ends too early. -/
theorem scan_cut {n : Int} (h0 : -9223372036854775808 ≤ n) (h1 : n ≤ 9223372036854775807) (j : Nat) (hj : j < (enc n).length) : (scan ((enc n).take j) 0 0).1 = 101 :=
  scan_cutF 9 0 (zig n) 0 j rfl hj (by simpa using (zig_range h0 h1).2) (zig_range h0 h1).1
/-- A byte with its bit set and a nothing behind: not as it has to be. -/
theorem scan_longF (k : Nat) : ∀ (i : Nat) (z acc : Int) (l : List Int) (c : Int), i + k + 1 = 10 → 0 ≤ z → z * 128 ^ i < 18446744073709551616 → encF (k + 1) z = l ++ [c] → (scan (l ++ [c + 128, 0]) i acc).1 = 102 := by
  induction k with
  | zero =>
    intro i z acc l c hi hz hb he
    obtain rfl : i = 9 := by omega
    rw [pow9] at hb
    rw [encF, if_neg (by omega)] at he
    cases l with
    | nil =>
      simp at he
      subst he
      rw [List.nil_append, scan, if_pos (by omega)]
    | cons a l => simp at he
  | succ k ih =>
    intro i z acc l c hi hz hb he
    rw [encF] at he
    by_cases h : 128 ≤ z
    · rw [if_pos h] at he
      cases l with
      | nil =>
        have hp := encF_pos k (z / 128)
        have hl := congrArg List.length he
        simp at hl
        rw [hl] at hp
        simp at hp
      | cons a l =>
        rw [List.cons_append, List.cons.injEq] at he
        rw [List.cons_append, ← he.1, scan, if_neg (by omega), if_pos (by omega)]
        refine ih (i + 1) (z / 128) _ l c (by omega) (by omega) ?_ he.2
        rw [pow_step, ← Int.mul_assoc]
        exact Int.lt_of_le_of_lt (Int.mul_le_mul_of_nonneg_right (by omega) (Int.le_of_lt (Int.pow_pos (by decide)))) hb
    · rw [if_neg h] at he
      cases l with
      | nil =>
        simp at he
        subst he
        rw [List.nil_append, scan, if_neg (by omega), if_pos (by omega), scan, if_neg (by omega), if_neg (by omega), if_pos (by omega)]
      | cons a l => simp at he
/-- The last byte has no bit set. -/
theorem encF_last (k : Nat) : ∀ z : Int, 0 ≤ z → z < 128 ^ (k + 1) → ∃ l c, encF (k + 1) z = l ++ [c] ∧ 0 ≤ c ∧ c < 128 := by
  induction k with
  | zero =>
    intro z hz hb
    simp only [Int.pow_succ, Int.pow_zero] at hb
    exact ⟨[], z, by rw [encF, if_neg (by omega)]; rfl, hz, by omega⟩
  | succ k ih =>
    intro z hz hb
    rw [encF]
    by_cases h : 128 ≤ z
    · obtain ⟨l, c, he, hc⟩ := ih (z / 128) (by omega) (by rw [pow_step] at hb; exact Int.ediv_lt_of_lt_mul (by decide) (by rw [Int.mul_comm]; exact hb))
      exact ⟨(z % 128 + 128) :: l, c, by rw [if_pos h, he]; rfl, hc⟩
    · exact ⟨[], z, by rw [if_neg h]; rfl, hz, by omega⟩
/-- Equal beginnings: equal numbers. -/
theorem enc_take {a b : Int} (ha0 : -9223372036854775808 ≤ a) (ha1 : a ≤ 9223372036854775807) (hb0 : -9223372036854775808 ≤ b) (hb1 : b ≤ 9223372036854775807) (h : enc a = (enc b).take (enc a).length) : a = b := by
  have h1 := scan_enc hb0 hb1 []
  rw [List.append_nil, ← List.take_append_drop (enc a).length (enc b), ← h, scan_enc ha0 ha1] at h1
  simp only [Prod.mk.injEq] at h1
  exact h1.2.1
/-! ### the code's functions -/
theorem put_l0 (k : Nat) : ∀ (z : Int) (x : List Int), 0 ≤ z → z < 128 ^ (k + 1) → x.length + k + 1 < 140737488355328 → wire_put.l0 (k + 1) x z = some (x ++ encF (k + 1) z) := by
  induction k with
  | zero =>
    intro z x hz hb hl
    simp only [Int.pow_succ, Int.pow_zero] at hb
    rw [wire_put.l0, if_neg (by omega), if_pos (by omega), encF, if_neg (by omega), show z % 256 = z by omega]
  | succ k ih =>
    intro z x hz hb hl
    rw [wire_put.l0, encF]
    by_cases h : 128 ≤ z
    · rw [if_pos h, if_pos (by omega), if_pos h, ih (z / 128) _ (by omega) ?_ (by simp; omega), or128, List.append_assoc]
      · rfl
      · rw [pow_step] at hb
        exact Int.ediv_lt_of_lt_mul (by decide) (by rw [Int.mul_comm]; exact hb)
    · rw [if_neg h, if_pos (by omega), if_neg h, show z % 256 = z by omega]
theorem put_ans {n : Int} (h0 : -9223372036854775808 ≤ n) (h1 : n ≤ 9223372036854775807) (x : List Int) (hl : x.length < 140737488355000) : Ans (fun k => wire_put.f k x n) (x ++ enc n) := by
  refine Ans.of_mono (m := 10) (wire_put.mono x n) ?_
  rw [wire_put.f, zig_eq h0 h1]
  exact put_l0 9 (zig n) x (zig_range h0 h1).1 (Int.lt_trans (zig_range h0 h1).2 (by decide)) (by omega)
theorem Put_ans {n : Int} (h0 : -9223372036854775808 ≤ n) (h1 : n ≤ 9223372036854775807) (x : List Int) (hl : x.length < 140737488355000) : Ans (fun k => wire_Put.f k x n) (x ++ enc n) := by
  refine Ans.congr (G := fun k => (wire_put.f k x n).bind fun t => some t) (Ans.bind (put_ans h0 h1 x hl) (Ans.some _)) (fun k => ?_)
  rw [wire_Put.f, slices_CloneU8.f, if_pos (by omega), Option.bind_some]
theorem same_ans (x y : List Int) (hx : x.length < 4611686018427387904) : Ans (fun k => pendulumref_SameBytes.f k x y) (decide (x = y)) := by
  by_cases hl : x.length = y.length
  · refine Ans.congr (G := fun k => pendulumref_SameBytes.l0 k x y 0) ?_ (fun k => by rw [pendulumref_SameBytes.f, if_pos (by omega)])
    have h := eq_loop (L := fun k i => pendulumref_SameBytes.l0 k x y i) hl hx (fun k i hi => by
      show pendulumref_SameBytes.l0 (k + 1) x y i = _
      rw [pendulumref_SameBytes.l0, if_pos (by omega), if_pos (by omega), if_pos (by omega), up i (by omega)]
      rfl) (fun k => by
      show pendulumref_SameBytes.l0 (k + 1) x y _ = _
      rw [pendulumref_SameBytes.l0, if_neg (by omega)]) x.length 0 (by omega)
    simpa using h
  · rw [show decide (x = y) = false from decide_eq_false (fun e => hl (by rw [e]))]
    exact Ans.of_eq fun k => by rw [pendulumref_SameBytes.f, if_neg (by omega)]
theorem first_ans : Ans (fun k => pendulumlaw1_first.f k) true := Ans.of_mono (m := 100) pendulumlaw1_first.mono (by kernel_rfl)
theorem Num_none {b : List Int} {at_ lo hi : Int} (n k : Int) (hs : scan (b.drop at_.toNat) 0 0 = (0, n, k)) (h0 : lo ≤ n) (h1 : n ≤ hi) : wire_Num.f b at_ none lo hi = some (n, at_ + k, none) := by
  unfold wire_Num.f
  rw [hs]
  simp only [Option.isSome_none, Bool.false_eq_true, if_false, ne_eq, not_true]
  rw [if_neg (by omega)]
theorem Num_range {b : List Int} {at_ lo hi : Int} (n k : Int) (hs : scan (b.drop at_.toNat) 0 0 = (0, n, k)) (h : n < lo ∨ hi < n) : wire_Num.f b at_ none lo hi = some (0, at_, some (at_, 104)) := by
  unfold wire_Num.f
  rw [hs]
  simp only [Option.isSome_none, Bool.false_eq_true, if_false, ne_eq, not_true]
  rw [if_pos h]
theorem Num_bad {b : List Int} {at_ lo hi c : Int} (hs : (scan (b.drop at_.toNat) 0 0).1 = c) (hc : c ≠ 0) : wire_Num.f b at_ none lo hi = some (0, at_, some (at_, c)) := by
  unfold wire_Num.f
  rw [hs]
  simp only [Option.isSome_none, Bool.false_eq_true, if_false]
  rw [if_pos hc]
theorem Num_some {b : List Int} {at_ lo hi : Int} (x : Int × Int) : wire_Num.f b at_ (some x) lo hi = some (0, at_, some x) := rfl
end Go.Proofs.YtpiafijccnbdbaaDoor.WATWireTwins
