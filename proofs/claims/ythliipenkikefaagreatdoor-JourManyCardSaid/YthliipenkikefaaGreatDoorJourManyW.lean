/- What a store writes: numbers and texts as bytes, in plain words. By this session. -/
import Derived.Test.YthliipenkikefaaGreatDoorCJourManyR
import Derived.Test.YthliipenkikefaaGreatDoorCmPl
import Derived.Lib.Zigzag
import Derived.KernelRfl
namespace Go.Proofs.YthliipenkikefaaGreatDoor.Pure
open Go Go.Lib Go.Proofs.YthliipenkikefaaGreatDoor.Cm
set_option linter.unusedVariables false
set_option linter.unusedSimpArgs false
/-- A number's unsigned form. -/
def zig (n : Int) : Int := if 0 ≤ n then 2 * n else -(2 * n) - 1
theorem zig_range {n : Int} (h0 : -9223372036854775808 ≤ n) (h1 : n ≤ 9223372036854775807) : 0 ≤ zig n ∧ zig n < 18446744073709551616 := by
  unfold zig
  split <;> omega
theorem zig_eq0 {n : Int} (h0 : -9223372036854775808 ≤ n) (h1 : n ≤ 9223372036854775807) : Go.bits .xor .u64 (IntKind.u64.wrap ((IntKind.u64.wrap n) * 2)) (IntKind.u64.wrap (n / 9223372036854775808)) = zig n := by
  unfold zig
  by_cases h : 0 ≤ n
  · rw [if_pos h, show n / 9223372036854775808 = 0 by omega, show IntKind.u64.wrap 0 = 0 by rw [IntKind.wrap_u64]; rfl, show IntKind.u64.wrap (IntKind.u64.wrap n * 2) = 2 * n by rw [IntKind.wrap_u64, IntKind.wrap_u64]; omega, u64_xor _ _ (by omega) (by omega) (by omega) (by omega)]
    simp
    omega
  · rw [if_neg h, show n / 9223372036854775808 = -1 by omega, show IntKind.u64.wrap (-1) = 18446744073709551615 by rw [IntKind.wrap_u64]; rfl, show IntKind.u64.wrap (IntKind.u64.wrap n * 2) = 2 * n + 18446744073709551616 by rw [IntKind.wrap_u64, IntKind.wrap_u64]; omega, u64_xor _ _ (by omega) (by omega) (by omega) (by omega), Nat.xor_comm, show (18446744073709551615 : Int).toNat = 2 ^ 64 - 1 by decide, xor_ones64 _ (by omega)]
    omega
/-- A number's bytes. -/
def encF : Nat → Int → List Int
  | 0, _ => []
  | k + 1, z => if 128 ≤ z then (z % 128 + 128) :: encF k (z / 128) else [z]
def enc (n : Int) : List Int := encF 10 (zig n)
theorem encF_len : ∀ k z, (encF k z).length ≤ k
  | 0, _ => by simp [encF]
  | k + 1, z => by
    rw [encF]
    split
    · have := encF_len k (z / 128)
      simp only [List.length_cons]
      omega
    · simp
theorem encF_pos (k : Nat) (z : Int) : 0 < (encF (k + 1) z).length := by
  rw [encF]
  split <;> simp
theorem encF_byte : ∀ k z, 0 ≤ z → ∀ c ∈ encF k z, 0 ≤ c ∧ c < 256
  | 0, _, _ => by simp [encF]
  | k + 1, z, hz => by
    rw [encF]
    split
    · intro c hc
      rcases List.mem_cons.1 hc with rfl | hc
      · omega
      · exact encF_byte k (z / 128) (by omega) c hc
    · intro c hc
      simp at hc
      omega
theorem enc_len (n : Int) : 0 < (enc n).length ∧ (enc n).length ≤ 10 := ⟨encF_pos 9 _, encF_len 10 _⟩
theorem enc_byte {n : Int} (h0 : -9223372036854775808 ≤ n) (h1 : n ≤ 9223372036854775807) : ∀ c ∈ enc n, 0 ≤ c ∧ c < 256 := encF_byte 10 _ (zig_range h0 h1).1
set_option maxRecDepth 10000 in
theorem or128 (z : Int) : Go.bits .or .u8 (z % 256) 128 = z % 128 + 128 := by
  obtain ⟨a, ha⟩ := Int.eq_ofNat_of_zero_le (show 0 ≤ z % 256 by omega)
  have hlt : a < 256 := by omega
  rw [u8_or _ _ (by omega) (by omega) (by omega) (by omega), ha]
  have h : ∀ x : Fin 256, x.1 ||| 128 = x.1 % 128 + 128 := by decide
  have h2 := h ⟨a, hlt⟩
  simp only [Int.toNat_natCast] at *
  rw [show ((128 : Int)).toNat = 128 by rfl, h2]
  omega
theorem pow_step (i : Nat) : (128 : Int) ^ (i + 1) = 128 * 128 ^ i := by rw [Int.pow_succ, Int.mul_comm]

theorem zig_eq {n : Int} (h0 : -9223372036854775808 ≤ n) (h1 : n ≤ 9223372036854775807) : bitsOp .xor .u64 (shlOp .u64 (IntKind.u64.wrap n) 1) (IntKind.u64.wrap (shrOp .i64 n 63)) = zig n := by
  have := zig_eq0 h0 h1
  rw [← this]
  show Go.bits .xor .u64 _ _ = _
  congr 2
  show n.fdiv (2 ^ 63) = _
  rw [Int.fdiv_eq_ediv_of_nonneg _ (by decide)]
  rfl
theorem shr7 (z : Int) : shrOp .u64 z 7 = z / 128 := by
  show z.fdiv (2 ^ 7) = _
  rw [Int.fdiv_eq_ediv_of_nonneg _ (by decide)]
  rfl
theorem or8 (z : Int) : bitsOp .or .u8 (IntKind.u8.wrap z) 128 = z % 128 + 128 := by
  have := or128 z
  rw [← this]
  show Go.bits .or .u8 _ _ = _
  congr 1
theorem put_loop (n : Nat) : ∀ (d : Nat) (z : Int) (x : List Int) (k : Nat), 0 ≤ z → z < 128 ^ (d + 1) → x.length + d < 1000000000000 → d < k →
    ∃ (y : List Int) (zl : Int), wire_put_l2 n k (((), z, ()), ((), x, ())) = some (.inl (((), zl, ()), ((), x ++ y, ()))) ∧ 0 ≤ zl ∧ zl < 128 ∧ y ++ [zl] = encF (d + 1) z ∧ y.length ≤ d := by
  intro d
  induction d with
  | zero =>
    intro z x k hz hb hl hk
    obtain ⟨k, rfl⟩ : ∃ m, k = m + 1 := ⟨k - 1, by omega⟩
    simp only [Int.pow_succ, Int.pow_zero] at hb
    refine ⟨[], z, ?_, hz, by omega, ?_, Nat.le_refl _⟩
    · simp only [wire_put_l2]
      rw [if_neg (by simp; omega), List.append_nil]
    · rw [encF, if_neg (by omega)]; rfl
  | succ d ih =>
    intro z x k hz hb hl hk
    obtain ⟨k, rfl⟩ : ∃ m, k = m + 1 := ⟨k - 1, by omega⟩
    by_cases h : 128 ≤ z
    · obtain ⟨y, zl, h1, h2, h3, h4, h5⟩ := ih (z / 128) (x ++ [z % 128 + 128]) k (by omega) (by rw [pow_step] at hb; exact Int.ediv_lt_of_lt_mul (by decide) (by rw [Int.mul_comm]; exact hb)) (by simp; omega) (by omega)
      refine ⟨(z % 128 + 128) :: y, zl, ?_, h2, h3, ?_, by simp; omega⟩
      · simp only [wire_put_l2]
        rw [if_pos (by simp; omega), or8, shr7, if_pos (by simp; omega), h1]
        simp
      · rw [encF, if_pos h, List.cons_append, h4]
    · refine ⟨[], z, ?_, hz, by omega, ?_, by simp⟩
      · simp only [wire_put_l2]
        rw [if_neg (by simp; omega), List.append_nil]
      · rw [encF, if_neg h]; rfl
theorem wrap8 {z : Int} (h0 : 0 ≤ z) (h1 : z < 128) : IntKind.u8.wrap z = z := by rw [IntKind.wrap_u8']; omega
abbrev I64 (z : Int) : Prop := -9223372036854775808 ≤ z ∧ z ≤ 9223372036854775807
theorem put_at {n : Nat} (hn : 20 ≤ n) {z : Int} (hz : I64 z) (x : List Int) (hx : x.length < 100000000000) : wire_put n (((), z, ()), (x, ())) = some (((), ()), ((), x ++ enc z, ())) := by
  obtain ⟨n, rfl⟩ : ∃ m, n = m + 1 := ⟨n - 1, by omega⟩
  have hr := zig_range hz.1 hz.2
  obtain ⟨y, zl, h1, h2, h3, h4, h5⟩ := put_loop n 9 (zig z) x n hr.1 (Int.lt_trans hr.2 (by decide)) (by omega) (by omega)
  simp only [wire_put, zig_eq hz.1 hz.2, h1]
  rw [if_pos (by simp; omega), wrap8 h2 h3, List.append_assoc, h4]
  rfl
theorem clone_at {n : Nat} (hn : 1 ≤ n) (l : List Int) (hl : l.length < 100000000000) : slices_Clone_byte_byte n ((l, ()), ()) = some (((), ()), (l, ())) := by
  obtain ⟨n, rfl⟩ : ∃ m, n = m + 1 := ⟨n - 1, by omega⟩
  simp only [slices_Clone_byte_byte]
  rw [if_pos (by simp; omega)]
theorem bytesL_len (s : ByteArray) : (bytesL s).length = s.size := by unfold bytesL; rw [List.length_map, Array.length_toList]; rfl
def txt (s : ByteArray) : List Int := enc s.size ++ bytesL s
theorem txt_len (s : ByteArray) : (txt s).length ≤ 10 + s.size := by
  have := (enc_len s.size).2
  rw [txt, List.length_append, bytesL_len]
  omega
theorem PutText_at {n : Nat} (hn : 30 ≤ n) (s : ByteArray) (x : List Int) (hx : x.length + s.size < 10000000000) : wire_PutText n (((), s, ()), (x, ())) = some (((), ()), (x, x ++ txt s, ())) := by
  obtain ⟨n, rfl⟩ : ∃ m, n = m + 1 := ⟨n - 1, by omega⟩
  have hl := (enc_len s.size).2
  have hb := bytesL_len s
  simp only [wire_PutText, clone_at (n := n) (by omega) x (by omega), put_at (n := n) (z := (s.size : Int)) (by omega) ⟨by omega, by omega⟩ x (by omega)]
  rw [if_pos (by simp only [List.length_append]; omega), txt, List.append_assoc]
theorem Put_at {n : Nat} (hn : 30 ≤ n) {z : Int} (hz : I64 z) (x : List Int) (hx : x.length < 10000000000) : wire_Put n (((), z, ()), (x, ())) = some (((), ()), (x, x ++ enc z, ())) := by
  obtain ⟨n, rfl⟩ : ∃ m, n = m + 1 := ⟨n - 1, by omega⟩
  simp only [wire_Put, clone_at (n := n) (by omega) x (by omega), put_at (n := n) (by omega) hz x (by omega)]
end Go.Proofs.YthliipenkikefaaGreatDoor.Pure
