/- What code lays, in plain words. By this session. -/
import Derived.Test.YtjccbolnjnefiaaDoorPl
import Derived.Test.YtjccbolnjnefiaaDoorKTCodeBoundsx
import Derived.Laws.BitsAllLaws
import Derived.Lib.Zigzag
import Derived.KernelRfl
namespace Go.Proofs.YtjccbolnjnefiaaDoor.CATCodeBounds
open Go.RowKit Go.Lib Go.Proofs.YtjccbolnjnefiaaDoor.Pl Go.Proofs.YtjccbolnjnefiaaDoor.KTCodeBounds Go.Proofs.YtjccbolnjnefiaaDoorW.PrintWords Go.Proofs.YtjccbolnjnefiaaDoorW.PrintLast Go.Proofs.YtjccbolnjnefiaaDoorW.PrintMore
set_option linter.unusedVariables false
/-- A number's unsigned form. -/
def zig (n : Int) : Int := if 0 ≤ n then 2 * n else -(2 * n) - 1
theorem zig_range {n : Int} (h0 : -9223372036854775808 ≤ n) (h1 : n ≤ 9223372036854775807) : 0 ≤ zig n ∧ zig n < 18446744073709551616 := by
  unfold zig
  split <;> omega
theorem zig_eq {n : Int} (h0 : -9223372036854775808 ≤ n) (h1 : n ≤ 9223372036854775807) : Go.bits .xor .u64 (IntKind.u64.wrap ((IntKind.u64.wrap n) * 2)) (IntKind.u64.wrap (n / 9223372036854775808)) = zig n := by
  unfold zig
  by_cases h : 0 ≤ n
  · rw [if_pos h, show n / 9223372036854775808 = 0 by omega, show IntKind.u64.wrap 0 = 0 by rw [IntKind.wrap_u64]; rfl, show IntKind.u64.wrap (IntKind.u64.wrap n * 2) = 2 * n by rw [IntKind.wrap_u64, IntKind.wrap_u64]; omega, u64_xor _ _ (by omega) (by omega) (by omega) (by omega)]
    simp
    omega
  · rw [if_neg h, show n / 9223372036854775808 = -1 by omega, show IntKind.u64.wrap (-1) = 18446744073709551615 by rw [IntKind.wrap_u64]; rfl, show IntKind.u64.wrap (IntKind.u64.wrap n * 2) = 2 * n + 18446744073709551616 by rw [IntKind.wrap_u64, IntKind.wrap_u64]; omega, u64_xor _ _ (by omega) (by omega) (by omega) (by omega), Nat.xor_comm, show (18446744073709551615 : Int).toNat = 2 ^ 64 - 1 by decide, xor_ones64 _ (by omega)]
    omega
/-- A number's bytes. -/
def encF : Nat → Int → List Int
  | 0, _ => []
  | k + 1, z => if 128 ≤ z then (z % 128 + 128) :: encF k (z / 128) else [z]
def enc (n : Int) : List Int := encF 10 (zig n)
theorem encF_len : ∀ k z, (encF k z).length ≤ k
  | 0, _ => by simp [encF]
  | k + 1, z => by
    rw [encF]
    split
    · have := encF_len k (z / 128)
      simp only [List.length_cons]
      omega
    · simp
theorem encF_pos (k : Nat) (z : Int) : 0 < (encF (k + 1) z).length := by
  rw [encF]
  split <;> simp
theorem encF_byte : ∀ k z, 0 ≤ z → ∀ c ∈ encF k z, 0 ≤ c ∧ c < 256
  | 0, _, _ => by simp [encF]
  | k + 1, z, hz => by
    rw [encF]
    split
    · intro c hc
      rcases List.mem_cons.1 hc with rfl | hc
      · omega
      · exact encF_byte k (z / 128) (by omega) c hc
    · intro c hc
      simp at hc
      omega
theorem enc_len (n : Int) : 0 < (enc n).length ∧ (enc n).length ≤ 10 := ⟨encF_pos 9 _, encF_len 10 _⟩
theorem enc_byte {n : Int} (h0 : -9223372036854775808 ≤ n) (h1 : n ≤ 9223372036854775807) : ∀ c ∈ enc n, 0 ≤ c ∧ c < 256 := encF_byte 10 _ (zig_range h0 h1).1
set_option maxRecDepth 10000 in
theorem or128 (z : Int) : Go.bits .or .u8 (z % 256) 128 = z % 128 + 128 := by
  obtain ⟨a, ha⟩ := Int.eq_ofNat_of_zero_le (show 0 ≤ z % 256 by omega)
  have hlt : a < 256 := by omega
  rw [u8_or _ _ (by omega) (by omega) (by omega) (by omega), ha]
  have h : ∀ x : Fin 256, x.1 ||| 128 = x.1 % 128 + 128 := by decide
  have h2 := h ⟨a, hlt⟩
  simp only [Int.toNat_natCast] at *
  rw [show ((128 : Int)).toNat = 128 by rfl, h2]
  omega
theorem pow_step (i : Nat) : (128 : Int) ^ (i + 1) = 128 * 128 ^ i := by rw [Int.pow_succ, Int.mul_comm]
theorem put_l0 (k : Nat) : ∀ (z : Int) (x : List Int), 0 ≤ z → z < 128 ^ (k + 1) → x.length + k + 1 < 140737488355328 → wire_put.l0 (k + 1) x z = some (x ++ encF (k + 1) z) := by
  induction k with
  | zero =>
    intro z x hz hb hl
    simp only [Int.pow_succ, Int.pow_zero] at hb
    rw [wire_put.l0, if_neg (by omega), if_pos (by omega), encF, if_neg (by omega), show z % 256 = z by omega]
  | succ k ih =>
    intro z x hz hb hl
    rw [wire_put.l0, encF]
    by_cases h : 128 ≤ z
    · rw [if_pos h, if_pos (by omega), if_pos h, ih (z / 128) _ (by omega) ?_ (by simp; omega), or128, List.append_assoc]
      · rfl
      · rw [pow_step] at hb
        exact Int.ediv_lt_of_lt_mul (by decide) (by rw [Int.mul_comm]; exact hb)
    · rw [if_neg h, if_pos (by omega), if_neg h, show z % 256 = z by omega]
theorem put_ans {n : Int} (h0 : -9223372036854775808 ≤ n) (h1 : n ≤ 9223372036854775807) (x : List Int) (hl : x.length < 140737488355000) : Ans (fun k => wire_put.f k x n) (x ++ enc n) := by
  refine Ans.of_mono (m := 10) (wire_put.mono x n) ?_
  rw [wire_put.f, zig_eq h0 h1]
  exact put_l0 9 (zig n) x (zig_range h0 h1).1 (Int.lt_trans (zig_range h0 h1).2 (by decide)) (by omega)
theorem Put_ans {n : Int} (h0 : -9223372036854775808 ≤ n) (h1 : n ≤ 9223372036854775807) (x : List Int) (hl : x.length < 140737488355000) : Ans (fun k => wire_Put.f k x n) (x ++ enc n) := by
  refine Ans.congr (G := fun k => (wire_put.f k x n).bind fun t => some t) (Ans.bind (put_ans h0 h1 x hl) (Ans.some _)) (fun k => ?_)
  rw [wire_Put.f, slices_CloneU8.f, if_pos (by omega), Option.bind_some]
theorem bytes_len (s : ByteArray) : (Go.Proofs.YtjccbolnjnefiaaDoorW.PrintWords.bytesOf s).length = s.size := bytesOf_length s
theorem PutText_ans (x : List Int) (s : ByteArray) (hx : x.length + s.size < 140737488355000) : Ans (fun k => wire_PutText.f k x s) (x ++ enc s.size ++ Go.Proofs.YtjccbolnjnefiaaDoorW.PrintWords.bytesOf s) := by
  have hl := (enc_len s.size).2
  refine Ans.congr (G := fun k => (wire_put.f k x (s.size : Int)).bind fun t => if t.length + s.size < 140737488355328 then some (t ++ Go.Proofs.YtjccbolnjnefiaaDoorW.PrintWords.bytesOf s) else none) (Ans.bind (put_ans (by omega) (by omega) x (by omega)) ?_) (fun k => ?_)
  · exact Ans.ite_pos (by simp only [List.length_append]; omega) (Ans.some _)
  · rw [wire_PutText.f, slices_CloneU8.f, if_pos (by omega), Option.bind_some]
/-- A text's bytes. -/
def txt (s : ByteArray) : List Int := enc s.size ++ Go.Proofs.YtjccbolnjnefiaaDoorW.PrintWords.bytesOf s
theorem txt_len (s : ByteArray) : (txt s).length ≤ 10 + s.size := by
  have := (enc_len s.size).2
  rw [txt, List.length_append, bytes_len]
  omega
theorem text_ans (x : List Int) (s : ByteArray) (hx : x.length + s.size < 100000000000) : Ans (fun k => code_text.f k x s) (x ++ txt s) := by
  have hl := txt_len s
  unfold code_text.f
  refine Ans.bind (PutText_ans [] s (by simp; omega)) ?_
  rw [List.nil_append]
  exact Ans.ite_pos (by show x.length + (txt s).length < _; omega) (Ans.some _)
/-- Numbers' bytes. -/
def nums_ (l : List Int) : List Int := l.flatMap enc
theorem nums_len (l : List Int) : (nums_ l).length ≤ 10 * l.length := by
  induction l with
  | nil => simp [nums_]
  | cons a l ih =>
    have := (enc_len a).2
    simp only [nums_, List.flatMap_cons, List.length_append, List.length_cons] at *
    omega
theorem nums_drop (l : List Int) (i : Nat) (h : i < l.length) : nums_ (l.drop i) = enc (l.getD i 0) ++ nums_ (l.drop (i + 1)) := by
  rw [getD_drop l i 0 h]
  simp [nums_]
theorem put_loop (l : List Int) (hw : ∀ y ∈ l, -9223372036854775808 ≤ y ∧ y ≤ 9223372036854775807) (hl : l.length < 1000000000) (d : Nat) : ∀ (i : Nat) (x : List Int), i + d = l.length → x.length + 10 * d < 140737488355000 →
    Ans (fun k => code_put.l0 k x l (l.length : Int) i) (x ++ nums_ (l.drop i)) := by
  induction d with
  | zero =>
    intro i x hi hx
    obtain rfl : i = l.length := by omega
    refine Ans.succ (fun k => by simp only [code_put.l0]; rw [if_neg (by omega)]) ?_
    rw [List.drop_length]
    simpa [nums_] using Ans.some x
  | succ d ih =>
    intro i x hi hx
    obtain ⟨y0, y1⟩ := hw _ (getD_mem l i 0 (by omega))
    have he := (enc_len (l.getD i 0)).2
    refine Ans.succ (fun k => by simp only [code_put.l0]; rw [if_pos (by omega), if_pos (by omega), if_pos (by omega)]) ?_
    rw [rd_nat]
    refine Ans.bind (Put_ans y0 y1 [] (by simp)) ?_
    rw [List.nil_append]
    refine Ans.ite_pos (by omega) ?_
    rw [Go.Proofs.YtjccbolnjnefiaaDoor.Pl.up i (by omega), nums_drop l i (by omega), ← List.append_assoc]
    exact ih (i + 1) _ (by omega) (by rw [List.length_append]; omega)
theorem cput_ans (x l : List Int) (hw : ∀ y ∈ l, -9223372036854775808 ≤ y ∧ y ≤ 9223372036854775807) (hl : l.length < 1000000000) (hx : x.length < 100000000000) : Ans (fun k => code_put.f k x l) (x ++ nums_ l) := by
  have h := put_loop l hw hl l.length 0 x (by omega) (by omega)
  rw [List.drop_zero] at h
  exact h
end Go.Proofs.YtjccbolnjnefiaaDoor.CATCodeBounds
