/- What a reader reads, in plain words: numbers and texts. By this session. -/
import Derived.Test.YthllmcijlhlimaaGreatDoorCodeLoadsD
namespace Go.Proofs.YthllmcijlhlimaaGreatDoor.Pure
open Go Go.Lib Go.Proofs.YthllmcijlhlimaaGreatDoor.Cm
set_option linter.unusedVariables false
set_option linter.unusedSimpArgs false
def unzig (z : Int) : Int := if z % 2 = 0 then z / 2 else -(z / 2) - 1
theorem unzig_zig (n : Int) : unzig (zig n) = n := by
  unfold unzig zig
  by_cases h : 0 ≤ n
  · rw [if_pos h, if_pos (by omega)]
    omega
  · rw [if_neg h, if_neg (by omega)]
    omega
theorem wb_andNot (c : Int) (h0 : 0 ≤ c) (h1 : c < 256) : bits .andNot .u8 c 128 = c % 128 := by
  rw [u8_andNot c 128 h0 h1 (by omega) (by omega), show (255 - (128 : Int).toNat) = 2 ^ 7 - 1 by decide, Nat.and_two_pow_sub_one_eq_mod]
  omega
theorem wb_pow (i : Nat) : (2 : Int) ^ (7 * (i : Int)).toNat = 128 ^ i := by
  rw [show (7 * (i : Int)).toNat = 7 * i by omega, Int.pow_mul]
  rfl
theorem wb_top (c : Int) (i : Nat) (hi : i ≤ 9) (hc0 : 0 ≤ c) (hc : c < 128) (h9 : i = 9 → c ≤ 1) : c * 128 ^ i + 128 ^ i ≤ 18446744073709551616 := by
  have : i = 0 ∨ i = 1 ∨ i = 2 ∨ i = 3 ∨ i = 4 ∨ i = 5 ∨ i = 6 ∨ i = 7 ∨ i = 8 ∨ i = 9 := by omega
  rcases this with rfl | rfl | rfl | rfl | rfl | rfl | rfl | rfl | rfl | rfl
  all_goals simp only [show (128 : Int) ^ 0 = 1 from rfl, show (128 : Int) ^ 1 = 128 from rfl, show (128 : Int) ^ 2 = 16384 from rfl, show (128 : Int) ^ 3 = 2097152 from rfl, show (128 : Int) ^ 4 = 268435456 from rfl, show (128 : Int) ^ 5 = 34359738368 from rfl, show (128 : Int) ^ 6 = 4398046511104 from rfl, show (128 : Int) ^ 7 = 562949953421312 from rfl, show (128 : Int) ^ 8 = 72057594037927936 from rfl, show (128 : Int) ^ 9 = 9223372036854775808 from rfl]
  all_goals omega
theorem wb_or (z c : Int) (i : Nat) (hi : i ≤ 9) (hz0 : 0 ≤ z) (hz : z < 128 ^ i) (hc0 : 0 ≤ c) (hc : c < 128) (h9 : i = 9 → c ≤ 1) :
    IntKind.u64.wrap (c * 128 ^ i) = c * 128 ^ i ∧ bits .or .u64 z (c * 128 ^ i) = z + c * 128 ^ i ∧ z + c * 128 ^ i < 18446744073709551616 := by
  have ht := wb_top c i hi hc0 hc h9
  have hp : (0 : Int) < 128 ^ i := Int.pow_pos (by omega)
  have hn : 0 ≤ c * 128 ^ i := Int.mul_nonneg hc0 (by omega)
  refine ⟨by rw [IntKind.wrap_u64]; omega, ?_, by omega⟩
  rw [u64_or z _ hz0 (by omega) hn (by omega), Nat.or_comm]
  have e1 : (c * 128 ^ i).toNat = 2 ^ (7 * i) * c.toNat := by
    rw [Int.toNat_mul hc0 (by omega), Nat.mul_comm, Nat.pow_mul]
    rw [show (128 : Int) ^ i = ((128 ^ i : Nat) : Int) by simp, Int.toNat_natCast]
  have e2 : z.toNat < 2 ^ (7 * i) := by
    rw [Nat.pow_mul]
    have : ((z.toNat : Nat) : Int) < ((2 ^ 7) ^ i : Nat) := by
      rw [Int.toNat_of_nonneg hz0]
      simpa using hz
    exact_mod_cast this
  rw [e1, ← Nat.two_pow_add_eq_or_of_lt e2, ← e1]
  omega
theorem wb_unzig (z : Int) (h0 : 0 ≤ z) (h1 : z < 18446744073709551616) : bits .xor .i64 (IntKind.i64.wrap (z / 2)) (IntKind.i64.wrap (-(IntKind.i64.wrap (bits .and .u64 z 1)))) = unzig z := by
  rw [Lib.u64_and1 z h0 h1]
  have e1 : IntKind.i64.wrap (z / 2) = z / 2 := by rw [IntKind.wrap_i64]; omega
  rw [e1]
  unfold unzig
  by_cases h : z % 2 = 0
  · rw [if_pos h, h]
    obtain ⟨x, hx⟩ := Int.eq_ofNat_of_zero_le (show 0 ≤ z / 2 by omega)
    rw [hx, show IntKind.i64.wrap (-IntKind.i64.wrap 0) = 0 by rw [IntKind.wrap_i64]; rfl]
    have hb : (BitVec.ofInt 64 (x : Int)).toNat = x := by
      rw [BitVec.toNat_ofInt]
      omega
    show IntKind.i64.wrap ((BitVec.ofInt 64 (x : Int) ^^^ BitVec.ofInt 64 0).toNat : Int) = _
    rw [show BitVec.ofInt 64 0 = 0#64 by decide, BitVec.xor_zero, hb, IntKind.wrap_i64]
    omega
  · rw [if_neg h, show z % 2 = 1 by omega]
    obtain ⟨x, hx⟩ := Int.eq_ofNat_of_zero_le (show 0 ≤ z / 2 by omega)
    rw [hx, show IntKind.i64.wrap (-IntKind.i64.wrap 1) = -1 by rw [IntKind.wrap_i64]; rfl]
    have hc : bits .xor .i64 (x : Int) (-1) = bits .xor .i64 (-1) (x : Int) := by
      show IntKind.i64.wrap ((BitVec.ofInt 64 (x : Int) ^^^ BitVec.ofInt 64 (-1)).toNat : Int) = IntKind.i64.wrap ((BitVec.ofInt 64 (-1) ^^^ BitVec.ofInt 64 (x : Int)).toNat : Int)
      rw [BitVec.xor_comm]
    rw [hc, Lib.i64_not x (by omega)]
theorem andNot8 {c : Int} (h0 : 0 ≤ c) (h1 : c < 256) : bitsOp .andNot .u8 c 128 = c % 128 := wb_andNot c h0 h1
theorem shl_at {c : Int} (i : Nat) (hi : i ≤ 9) (h0 : 0 ≤ c) (h1 : c < 128) : shlOp .u64 (IntKind.u64.wrap c) (IntKind.i64.wrap (7 * (i : Int))) = IntKind.u64.wrap (c * 128 ^ i) := by
  have e1 : IntKind.u64.wrap c = c := by rw [IntKind.wrap_u64]; omega
  have e2 : IntKind.i64.wrap (7 * (i : Int)) = 7 * i := w64_id (by omega) (by omega)
  rw [e1, e2]
  show IntKind.u64.wrap (c * 2 ^ min (7 * (i : Int)).toNat 64) = _
  rw [show min (7 * (i : Int)).toNat 64 = (7 * (i : Int)).toNat by omega, wb_pow]
theorem unzig_at {z : Int} (h0 : 0 ≤ z) (h1 : z < 18446744073709551616) : bitsOp .xor .i64 (IntKind.i64.wrap (shrOp .u64 z 1)) (IntKind.i64.wrap (0 - IntKind.i64.wrap (bitsOp .and .u64 z 1))) = unzig z := by
  have h := wb_unzig z h0 h1
  rw [Int.zero_sub, show shrOp .u64 z 1 = z / 2 by
    show z.fdiv (2 ^ 1) = _
    rw [Int.fdiv_eq_ediv_of_nonneg _ (by decide)]
    rfl]
  exact h
theorem drop_cons {b : List Int} {m : Nat} {c : Int} {tl : List Int} (h : b.drop m = c :: tl) (d : Int) : m < b.length ∧ b.getD m d = c ∧ b.drop (m + 1) = tl := by
  have hl : m < b.length := by
    have := congrArg List.length h
    simp only [List.length_drop, List.length_cons] at this
    omega
  rw [List.drop_eq_getElem_cons hl, List.cons.injEq] at h
  exact ⟨hl, by rw [List.getD_eq_getElem?_getD, List.getElem?_eq_getElem hl]; exact h.1, h.2⟩
theorem pow9 : (128 : Int) ^ 9 = 9223372036854775808 := by decide
theorem number_ok (n : Nat) (b : List Int) (hb : b.length < 1000000000) (at_ : Nat) (hat : at_ ≤ b.length) (e : ErrV) : ∀ (k i : Nat) (z acc : Int) (f : Nat) (rest : List Int), i + k + 1 = 10 → 0 ≤ z → 0 ≤ acc → acc < 128 ^ i → acc + z * 128 ^ i < 18446744073709551616 → (0 < i → 0 < z) → k < f → b.drop (at_ + i) = encF (k + 1) z ++ rest →
    wire_Reader_number_l4 n f (((), acc, (i : Int), ()), ((b, (at_ : Int), e, ()), ())) = some (.inl ((unzig (acc + z * 128 ^ i), ((i + (encF (k + 1) z).length : Nat) : Int), ErrV.nil, ()), ((b, (at_ : Int), e, ()), ()))) := by
  intro k
  induction k with
  | zero =>
    intro i z acc f rest hi hz ha hac hbd hp hf hd
    obtain ⟨f, rfl⟩ : ∃ m, f = m + 1 := ⟨f - 1, by omega⟩
    obtain rfl : i = 9 := by omega
    have hbd2 := hbd
    rw [pow9] at hbd2
    rw [encF, if_neg (by omega), List.singleton_append] at hd
    obtain ⟨d1, d2, d3⟩ := drop_cons hd (Ty.dflt (.int .u8))
    have hv : IntKind.i64.wrap ((at_ : Int) + ((9 : Nat) : Int)) = ((at_ + 9 : Nat) : Int) := by rw [w64_id (by omega) (by omega)]; omega
    obtain ⟨w1, w2, w3⟩ := wb_or acc z 9 (by omega) ha hac hz (by omega) (fun _ => by omega)
    simp only [wire_Reader_number_l4]
    rw [hv, rdT_nat, d2, if_neg (by simp; omega), if_pos ⟨by omega, by omega⟩]
    simp only [wire_Reader_number_c9]
    rw [if_pos (by simp), if_neg (by simp; omega)]
    simp only []
    rw [andNot8 hz (by omega), show z % 128 = z by omega, shl_at 9 (by omega) hz (by omega), if_neg (show ¬ (IntKind.i64.wrap (7 * ((9 : Nat) : Int)) < 0) by rw [w64_id (by omega) (by omega)]; omega), if_neg (by simp; omega), w1, show bitsOp .or .u64 acc (z * 128 ^ 9) = acc + z * 128 ^ 9 from w2]
    simp only [wire_Reader_number_c13]
    rw [if_neg (by simp; intro h0; have h0 : z = 0 := h0; have := hp (by omega); omega)]
    simp only []
    rw [unzig_at (by omega) w3, w64_up 9 (by omega), encF, if_neg (by omega)]
    rfl
  | succ k ih =>
    intro i z acc f rest hi hz ha hac hbd hp hf hd
    obtain ⟨f, rfl⟩ : ∃ m, f = m + 1 := ⟨f - 1, by omega⟩
    have hi9 : i ≤ 8 := by omega
    have hpp : (0 : Int) < 128 ^ i := Int.pow_pos (by decide)
    have hv : IntKind.i64.wrap ((at_ : Int) + (i : Int)) = ((at_ + i : Nat) : Int) := by rw [w64_id (by omega) (by omega)]; omega
    have hc9 : ∀ c : Int, wire_Reader_number_c9 n (((), acc, (i : Int), c, ()), ((b, (at_ : Int), e, ()), ())) = some (.inl (((), acc, (i : Int), c, ()), ((b, (at_ : Int), e, ()), ()))) := fun c => by
      simp only [wire_Reader_number_c9]
      rw [if_neg (by simp; intro h0; have h0 : (i : Int) = 9 := h0; omega)]
    rw [encF] at hd ⊢
    by_cases h : 128 ≤ z
    · rw [if_pos h, List.cons_append] at hd
      obtain ⟨d1, d2, d3⟩ := drop_cons hd (Ty.dflt (.int .u8))
      obtain ⟨w1, w2, w3⟩ := wb_or acc (z % 128) i (by omega) ha hac (by omega) (by omega) (fun _ => by omega)
      have eq : acc + z % 128 * 128 ^ i + z / 128 * 128 ^ (i + 1) = acc + z * 128 ^ i := by
        rw [pow_step, ← Int.mul_assoc, Int.add_assoc, ← Int.add_mul]
        congr 2
        omega
      have hlt : acc + z % 128 * 128 ^ i < 128 ^ (i + 1) := by
        have h1 : z % 128 * 128 ^ i ≤ 127 * 128 ^ i := Int.mul_le_mul_of_nonneg_right (by omega) (by omega)
        rw [pow_step]
        omega
      have hn0 : 0 ≤ z % 128 * 128 ^ i := Int.mul_nonneg (by omega) (by omega)
      have hrec := ih (i + 1) (z / 128) (acc + z % 128 * 128 ^ i) f rest (by omega) (by omega) (by omega) hlt (by rw [eq]; exact hbd) (fun _ => by omega) (by omega) (by rw [← Nat.add_assoc]; exact d3)
      simp only [wire_Reader_number_l4]
      rw [hv, rdT_nat, d2, if_neg (by simp; omega), if_pos ⟨by omega, by omega⟩, hc9]
      simp only []
      rw [andNot8 (by omega) (by omega), show (z % 128 + 128) % 128 = z % 128 by omega, shl_at i (by omega) (by omega) (by omega), if_neg (show ¬ (IntKind.i64.wrap (7 * (i : Int)) < 0) by rw [w64_id (by omega) (by omega)]; omega), if_pos (decide_eq_true (show z % 128 + 128 ≥ 128 by omega)), w1, show bitsOp .or .u64 acc (z % 128 * 128 ^ i) = acc + z % 128 * 128 ^ i from w2, w64_up i (by omega), hrec, eq, if_pos h, List.length_cons, show i + 1 + (encF (k + 1) (z / 128)).length = i + ((encF (k + 1) (z / 128)).length + 1) by omega]
    · rw [if_neg h, List.singleton_append] at hd
      obtain ⟨d1, d2, d3⟩ := drop_cons hd (Ty.dflt (.int .u8))
      obtain ⟨w1, w2, w3⟩ := wb_or acc z i (by omega) ha hac hz (by omega) (fun _ => by omega)
      have hc13 : ∀ v : Int, wire_Reader_number_c13 n ((v, (i : Int), z, ()), ((b, (at_ : Int), e, ()), ())) = some (.inl ((v, (i : Int), ()), ((b, (at_ : Int), e, ()), ()))) := fun v => by
        simp only [wire_Reader_number_c13]
        by_cases hz0 : z = 0
        · rw [if_pos (by simp [hz0]), if_neg (by have := mt hp; simp; omega)]
        · rw [if_neg (by simpa using hz0)]
      simp only [wire_Reader_number_l4]
      rw [hv, rdT_nat, d2, if_neg (by simp; omega), if_pos ⟨by omega, by omega⟩, hc9]
      simp only []
      rw [andNot8 hz (by omega), show z % 128 = z by omega, shl_at i (by omega) hz (by omega), if_neg (show ¬ (IntKind.i64.wrap (7 * (i : Int)) < 0) by rw [w64_id (by omega) (by omega)]; omega), if_neg (by simp; omega), w1, show bitsOp .or .u64 acc (z * 128 ^ i) = acc + z * 128 ^ i from w2, hc13]
      simp only []
      rw [unzig_at (by have := Int.mul_nonneg hz (Int.le_of_lt hpp); omega) w3, w64_up i (by omega), if_neg h]
      rfl
theorem number_cut (n : Nat) (b : List Int) (hb : b.length < 1000000000) (at_ : Nat) (hat : at_ ≤ b.length) (e : ErrV) : ∀ (k i : Nat) (z acc : Int) (f j : Nat), i + k + 1 = 10 → 0 ≤ z → z * 128 ^ i < 18446744073709551616 → k < f → j < (encF (k + 1) z).length → at_ + i ≤ b.length → b.drop (at_ + i) = (encF (k + 1) z).take j →
    wire_Reader_number_l4 n f (((), acc, (i : Int), ()), ((b, (at_ : Int), e, ()), ())) = some (.inl ((0, 0, ErrV.sent 101, ()), ((b, (at_ : Int), e, ()), ()))) := by
  have stop : ∀ (i : Nat) (acc : Int) (f : Nat), i < 100 → at_ + i ≤ b.length → b.drop (at_ + i) = [] → wire_Reader_number_l4 n (f + 1) (((), acc, (i : Int), ()), ((b, (at_ : Int), e, ()), ())) = some (.inl ((0, 0, ErrV.sent 101, ()), ((b, (at_ : Int), e, ()), ()))) := by
    intro i acc f hi hl hd
    have := congrArg List.length hd
    simp only [List.length_drop, List.length_nil] at this
    simp only [wire_Reader_number_l4]
    rw [if_pos (by rw [w64_id (by omega) (by omega)]; simp; omega)]
  intro k
  induction k with
  | zero =>
    intro i z acc f j hi hz hbd hf hj hl hd
    obtain ⟨f, rfl⟩ : ∃ m, f = m + 1 := ⟨f - 1, by omega⟩
    obtain rfl : i = 9 := by omega
    rw [pow9] at hbd
    rw [encF, if_neg (by omega)] at hj hd
    simp at hj
    subst hj
    exact stop 9 acc f (by omega) hl hd
  | succ k ih =>
    intro i z acc f j hi hz hbd hf hj hl hd
    obtain ⟨f, rfl⟩ : ∃ m, f = m + 1 := ⟨f - 1, by omega⟩
    cases j with
    | zero => exact stop i acc f (by omega) hl hd
    | succ j =>
      rw [encF] at hj hd
      by_cases h : 128 ≤ z
      · rw [if_pos h] at hj hd
        rw [List.take_succ_cons] at hd
        obtain ⟨d1, d2, d3⟩ := drop_cons hd (Ty.dflt (.int .u8))
        have hv : IntKind.i64.wrap ((at_ : Int) + (i : Int)) = ((at_ + i : Nat) : Int) := by rw [w64_id (by omega) (by omega)]; omega
        have hlt : z / 128 * 128 ^ (i + 1) < 18446744073709551616 := by
          rw [pow_step, ← Int.mul_assoc]
          exact Int.lt_of_le_of_lt (Int.mul_le_mul_of_nonneg_right (by omega) (Int.le_of_lt (Int.pow_pos (by decide)))) hbd
        have hrec := fun acc' => ih (i + 1) (z / 128) acc' f j (by omega) (by omega) hlt (by omega) (by simpa using hj) (by omega) (by rw [← Nat.add_assoc]; exact d3)
        simp only [wire_Reader_number_l4]
        rw [hv, rdT_nat, d2, if_neg (by simp; omega), if_pos ⟨by omega, by omega⟩]
        simp only [wire_Reader_number_c9]
        rw [if_neg (by simp; intro h0; have h0 : (i : Int) = 9 := h0; omega)]
        simp only []
        rw [if_neg (show ¬ (IntKind.i64.wrap (7 * (i : Int)) < 0) by rw [w64_id (by omega) (by omega)]; omega), if_pos (decide_eq_true (show z % 128 + 128 ≥ 128 by omega)), w64_up i (by omega), hrec]
      · rw [if_neg h] at hj
        simp at hj
end Go.Proofs.YthllmcijlhlimaaGreatDoor.Pure
