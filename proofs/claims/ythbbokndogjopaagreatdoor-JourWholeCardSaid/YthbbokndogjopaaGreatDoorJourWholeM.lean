/- Calls on a disk: what stays when one more is written, wholly or in part. By this session. -/
import Derived.Test.YthbbokndogjopaaGreatDoorCJourWholeR
import Derived.Test.YthbbokndogjopaaGreatDoorCmPl
import Derived.Lib.Zigzag
import Derived.KernelRfl
import Derived.Test.YthbbokndogjopaaGreatDoorCmMe
namespace Go.Proofs.YthbbokndogjopaaGreatDoor.Pure
open Go Go.Lib Go.Proofs.YthbbokndogjopaaGreatDoor.Cm
set_option linter.unusedVariables false
set_option linter.unusedSimpArgs false
/-- A number's unsigned form. -/
def zig (n : Int) : Int := if 0 ≤ n then 2 * n else -(2 * n) - 1
theorem zig_range {n : Int} (h0 : -9223372036854775808 ≤ n) (h1 : n ≤ 9223372036854775807) : 0 ≤ zig n ∧ zig n < 18446744073709551616 := by
  unfold zig
  split <;> omega
theorem zig_eq0 {n : Int} (h0 : -9223372036854775808 ≤ n) (h1 : n ≤ 9223372036854775807) : Go.bits .xor .u64 (IntKind.u64.wrap ((IntKind.u64.wrap n) * 2)) (IntKind.u64.wrap (n / 9223372036854775808)) = zig n := by
  unfold zig
  by_cases h : 0 ≤ n
  · rw [if_pos h, show n / 9223372036854775808 = 0 by omega, show IntKind.u64.wrap 0 = 0 by rw [IntKind.wrap_u64]; rfl, show IntKind.u64.wrap (IntKind.u64.wrap n * 2) = 2 * n by rw [IntKind.wrap_u64, IntKind.wrap_u64]; omega, u64_xor _ _ (by omega) (by omega) (by omega) (by omega)]
    simp
    omega
  · rw [if_neg h, show n / 9223372036854775808 = -1 by omega, show IntKind.u64.wrap (-1) = 18446744073709551615 by rw [IntKind.wrap_u64]; rfl, show IntKind.u64.wrap (IntKind.u64.wrap n * 2) = 2 * n + 18446744073709551616 by rw [IntKind.wrap_u64, IntKind.wrap_u64]; omega, u64_xor _ _ (by omega) (by omega) (by omega) (by omega), Nat.xor_comm, show (18446744073709551615 : Int).toNat = 2 ^ 64 - 1 by decide, xor_ones64 _ (by omega)]
    omega
/-- A number's bytes. -/
def encF : Nat → Int → List Int
  | 0, _ => []
  | k + 1, z => if 128 ≤ z then (z % 128 + 128) :: encF k (z / 128) else [z]
def enc (n : Int) : List Int := encF 10 (zig n)
theorem encF_len : ∀ k z, (encF k z).length ≤ k
  | 0, _ => by simp [encF]
  | k + 1, z => by
    rw [encF]
    split
    · have := encF_len k (z / 128)
      simp only [List.length_cons]
      omega
    · simp
theorem encF_pos (k : Nat) (z : Int) : 0 < (encF (k + 1) z).length := by
  rw [encF]
  split <;> simp
theorem encF_byte : ∀ k z, 0 ≤ z → ∀ c ∈ encF k z, 0 ≤ c ∧ c < 256
  | 0, _, _ => by simp [encF]
  | k + 1, z, hz => by
    rw [encF]
    split
    · intro c hc
      rcases List.mem_cons.1 hc with rfl | hc
      · omega
      · exact encF_byte k (z / 128) (by omega) c hc
    · intro c hc
      simp at hc
      omega
theorem enc_len (n : Int) : 0 < (enc n).length ∧ (enc n).length ≤ 10 := ⟨encF_pos 9 _, encF_len 10 _⟩
theorem enc_byte {n : Int} (h0 : -9223372036854775808 ≤ n) (h1 : n ≤ 9223372036854775807) : ∀ c ∈ enc n, 0 ≤ c ∧ c < 256 := encF_byte 10 _ (zig_range h0 h1).1
set_option maxRecDepth 10000 in
theorem or128 (z : Int) : Go.bits .or .u8 (z % 256) 128 = z % 128 + 128 := by
  obtain ⟨a, ha⟩ := Int.eq_ofNat_of_zero_le (show 0 ≤ z % 256 by omega)
  have hlt : a < 256 := by omega
  rw [u8_or _ _ (by omega) (by omega) (by omega) (by omega), ha]
  have h : ∀ x : Fin 256, x.1 ||| 128 = x.1 % 128 + 128 := by decide
  have h2 := h ⟨a, hlt⟩
  simp only [Int.toNat_natCast] at *
  rw [show ((128 : Int)).toNat = 128 by rfl, h2]
  omega
theorem pow_step (i : Nat) : (128 : Int) ^ (i + 1) = 128 * 128 ^ i := by rw [Int.pow_succ, Int.mul_comm]

theorem zig_eq {n : Int} (h0 : -9223372036854775808 ≤ n) (h1 : n ≤ 9223372036854775807) : bitsOp .xor .u64 (shlOp .u64 (IntKind.u64.wrap n) 1) (IntKind.u64.wrap (shrOp .i64 n 63)) = zig n := by
  have := zig_eq0 h0 h1
  rw [← this]
  show Go.bits .xor .u64 _ _ = _
  congr 2
  show n.fdiv (2 ^ 63) = _
  rw [Int.fdiv_eq_ediv_of_nonneg _ (by decide)]
  rfl
theorem shr7 (z : Int) : shrOp .u64 z 7 = z / 128 := by
  show z.fdiv (2 ^ 7) = _
  rw [Int.fdiv_eq_ediv_of_nonneg _ (by decide)]
  rfl
theorem or8 (z : Int) : bitsOp .or .u8 (IntKind.u8.wrap z) 128 = z % 128 + 128 := by
  have := or128 z
  rw [← this]
  show Go.bits .or .u8 _ _ = _
  congr 1
theorem put_loop (n : Nat) : ∀ (d : Nat) (z : Int) (x : List Int) (k : Nat), 0 ≤ z → z < 128 ^ (d + 1) → x.length + d < 1000000000000 → d < k →
    ∃ (y : List Int) (zl : Int), wire_put_l2 n k (((), z, ()), ((), x, ())) = some (.inl (((), zl, ()), ((), x ++ y, ()))) ∧ 0 ≤ zl ∧ zl < 128 ∧ y ++ [zl] = encF (d + 1) z ∧ y.length ≤ d := by
  intro d
  induction d with
  | zero =>
    intro z x k hz hb hl hk
    obtain ⟨k, rfl⟩ : ∃ m, k = m + 1 := ⟨k - 1, by omega⟩
    simp only [Int.pow_succ, Int.pow_zero] at hb
    refine ⟨[], z, ?_, hz, by omega, ?_, Nat.le_refl _⟩
    · simp only [wire_put_l2]
      rw [if_neg (by simp; omega), List.append_nil]
    · rw [encF, if_neg (by omega)]; rfl
  | succ d ih =>
    intro z x k hz hb hl hk
    obtain ⟨k, rfl⟩ : ∃ m, k = m + 1 := ⟨k - 1, by omega⟩
    by_cases h : 128 ≤ z
    · obtain ⟨y, zl, h1, h2, h3, h4, h5⟩ := ih (z / 128) (x ++ [z % 128 + 128]) k (by omega) (by rw [pow_step] at hb; exact Int.ediv_lt_of_lt_mul (by decide) (by rw [Int.mul_comm]; exact hb)) (by simp; omega) (by omega)
      refine ⟨(z % 128 + 128) :: y, zl, ?_, h2, h3, ?_, by simp; omega⟩
      · simp only [wire_put_l2]
        rw [if_pos (by simp; omega), or8, shr7, if_pos (by simp; omega), h1]
        simp
      · rw [encF, if_pos h, List.cons_append, h4]
    · refine ⟨[], z, ?_, hz, by omega, ?_, by simp⟩
      · simp only [wire_put_l2]
        rw [if_neg (by simp; omega), List.append_nil]
      · rw [encF, if_neg h]; rfl
theorem wrap8 {z : Int} (h0 : 0 ≤ z) (h1 : z < 128) : IntKind.u8.wrap z = z := by rw [IntKind.wrap_u8']; omega
abbrev I64 (z : Int) : Prop := -9223372036854775808 ≤ z ∧ z ≤ 9223372036854775807
theorem put_at {n : Nat} (hn : 20 ≤ n) {z : Int} (hz : I64 z) (x : List Int) (hx : x.length < 100000000000) : wire_put n (((), z, ()), (x, ())) = some (((), ()), ((), x ++ enc z, ())) := by
  obtain ⟨n, rfl⟩ : ∃ m, n = m + 1 := ⟨n - 1, by omega⟩
  have hr := zig_range hz.1 hz.2
  obtain ⟨y, zl, h1, h2, h3, h4, h5⟩ := put_loop n 9 (zig z) x n hr.1 (Int.lt_trans hr.2 (by decide)) (by omega) (by omega)
  simp only [wire_put, zig_eq hz.1 hz.2, h1]
  rw [if_pos (by simp; omega), wrap8 h2 h3, List.append_assoc, h4]
  rfl
theorem clone_at {n : Nat} (hn : 1 ≤ n) (l : List Int) (hl : l.length < 100000000000) : slices_Clone_byte_byte n ((l, ()), ()) = some (((), ()), (l, ())) := by
  obtain ⟨n, rfl⟩ : ∃ m, n = m + 1 := ⟨n - 1, by omega⟩
  simp only [slices_Clone_byte_byte]
  rw [if_pos (by simp; omega)]
theorem bytesL_len (s : ByteArray) : (bytesL s).length = s.size := by unfold bytesL; rw [List.length_map, Array.length_toList]; rfl
def txt (s : ByteArray) : List Int := enc s.size ++ bytesL s
theorem txt_len (s : ByteArray) : (txt s).length ≤ 10 + s.size := by
  have := (enc_len s.size).2
  rw [txt, List.length_append, bytesL_len]
  omega
theorem PutText_at {n : Nat} (hn : 30 ≤ n) (s : ByteArray) (x : List Int) (hx : x.length + s.size < 10000000000) : wire_PutText n (((), s, ()), (x, ())) = some (((), ()), (x, x ++ txt s, ())) := by
  obtain ⟨n, rfl⟩ : ∃ m, n = m + 1 := ⟨n - 1, by omega⟩
  have hl := (enc_len s.size).2
  have hb := bytesL_len s
  simp only [wire_PutText, clone_at (n := n) (by omega) x (by omega), put_at (n := n) (z := (s.size : Int)) (by omega) ⟨by omega, by omega⟩ x (by omega)]
  rw [if_pos (by simp only [List.length_append]; omega), txt, List.append_assoc]
theorem Put_at {n : Nat} (hn : 30 ≤ n) {z : Int} (hz : I64 z) (x : List Int) (hx : x.length < 10000000000) : wire_Put n (((), z, ()), (x, ())) = some (((), ()), (x, x ++ enc z, ())) := by
  obtain ⟨n, rfl⟩ : ∃ m, n = m + 1 := ⟨n - 1, by omega⟩
  simp only [wire_Put, clone_at (n := n) (by omega) x (by omega), put_at (n := n) (by omega) hz x (by omega)]
end Go.Proofs.YthbbokndogjopaaGreatDoor.Pure

namespace Go.Proofs.YthbbokndogjopaaGreatDoor.Pure
open Go Go.Lib Go.Proofs.YthbbokndogjopaaGreatDoor.Cm
set_option linter.unusedVariables false
set_option linter.unusedSimpArgs false
set_option maxRecDepth 100000
abbrev M := List (Int × List Int)
abbrev MM := List (ByteArray × ByteArray)
abbrev ki : Int → Int → Bool := keyEq (.int .i64)
/-- The lowest bytes of a number. -/
def numB (x : Int) (k : Nat) : List Int := (List.range k).map fun (i : Nat) => IntKind.u8.wrap (shrOp .i64 x (8 * (i : Int)))
theorem numB_len (x : Int) (k : Nat) : (numB x k).length = k := by simp [numB]
theorem number_at {n : Nat} (x : Int) (k : Nat) (hk : k ≤ 8) (hn : k + 2 ≤ n) (l : List Int) (hl : l.length < 1000000) : jour_number n (((), x, (k : Int), ()), (l, ())) = some (((), ()), ((), l ++ numB x k, ())) := by
  obtain ⟨n, rfl⟩ : ∃ m, n = m + 1 := ⟨n - 1, by omega⟩
  have h := for_all (F := jour_number_l2 n) (len := k) (fun i => (((), x, (k : Int), (i : Int), ()), ((), l ++ (List.range i).map (fun (i : Nat) => IntKind.u8.wrap (shrOp .i64 x (8 * (i : Int)))), ()))) (r := some (.inl (((), ()), ((), l ++ numB x k, ())))) (fun i q hi => by
    have hw : IntKind.i64.wrap (8 * (i : Int)) = 8 * (i : Int) := w64_id (by omega) (by omega)
    simp only [jour_number_l2]
    rw [if_pos (decide_eq_true (show (i : Int) < (k : Int) by omega)), hw, if_neg (show ¬ (8 * (i : Int) < 0) by omega), if_pos (by simp only [List.length_append, List.length_map, List.length_range, List.length_cons, List.length_nil]; omega), w64_up i (by omega), List.range_succ, List.map_append, List.append_assoc]
    rfl) (fun q => by
    simp only [jour_number_l2]
    rw [if_neg (by simp)]
    rfl) (k := n) (by omega)
  simp only [List.range_zero, List.map_nil, List.append_nil] at h
  simp only [jour_number]
  rw [show jour_number_l2 n n (((), x, (k : Int), 0, ()), ((), l, ())) = _ from h]
/-- How many sectors. -/
def secs (L : Nat) : Nat := (L + 115) / 116
theorem secs_at {L : Nat} (hL : L < 1000000000) : IntKind.i64.wrap (Int.tdiv (IntKind.i64.wrap (IntKind.i64.wrap ((L : Int) + 116) - 1)) 116) = (secs L : Int) := by
  rw [show IntKind.i64.wrap ((L : Int) + 116) = (L : Int) + 116 from w64_id (by omega) (by omega), show IntKind.i64.wrap ((L : Int) + 116 - 1) = ((L + 115 : Nat) : Int) by rw [w64_id (by omega) (by omega)]; omega]
  rw [Int.tdiv_eq_ediv_of_nonneg (by omega)]
  unfold secs
  rw [w64_id (by omega) (by omega)]
  omega
theorem sectors_at {n : Nat} (hn : 1 ≤ n) (b : List Int) (hb : b.length < 1000000000) : jour_sectors n (((), ()), (b, ())) = some (((secs b.length : Int), ()), (b, ())) := by
  obtain ⟨n, rfl⟩ : ∃ m, n = m + 1 := ⟨n - 1, by omega⟩
  simp only [jour_sectors]
  rw [secs_at hb]
theorem sectors2_at {n : Nat} (hn : 1 ≤ n) (b : List Int) (hb : b.length < 1000000000) : jour_sectors_2 n ((b, ()), ()) = some (((secs b.length : Int), ()), ()) := by
  obtain ⟨n, rfl⟩ : ∃ m, n = m + 1 := ⟨n - 1, by omega⟩
  simp only [jour_sectors_2]
  rw [secs_at hb]
/-- A sector as it is written. -/
def chunk (b : List Int) (i : Nat) : List Int := (b.take ((i + 1) * 116)).drop (i * 116)
def sect (q : Int) (b : List Int) (i : Nat) : List Int := ((numB q 8 ++ numB (i : Int) 2) ++ numB (secs b.length : Int) 2) ++ chunk b i
theorem chunk_len (b : List Int) (i : Nat) : (chunk b i).length ≤ 116 := by
  unfold chunk
  rw [List.length_drop, List.length_take, Nat.add_mul]
  omega
theorem sect_len (q : Int) (b : List Int) (i : Nat) : (sect q b i).length ≤ 128 := by
  have := chunk_len b i
  simp only [sect, List.length_append, numB_len]
  omega
theorem chunk_at (b : List Int) (hb : b.length < 1000000000) {i : Nat} (hi : i < secs b.length) : 0 ≤ IntKind.i64.wrap ((i : Int) * 116) ∧ IntKind.i64.wrap ((i : Int) * 116) ≤ mn (b.length : Int) (IntKind.i64.wrap (IntKind.i64.wrap ((i : Int) + 1) * 116)) ∧ mn (b.length : Int) (IntKind.i64.wrap (IntKind.i64.wrap ((i : Int) + 1) * 116)) ≤ (b.length : Int) ∧ cutL b (IntKind.i64.wrap ((i : Int) * 116)) (mn (b.length : Int) (IntKind.i64.wrap (IntKind.i64.wrap ((i : Int) + 1) * 116))) = chunk b i := by
  unfold secs at hi
  rw [w64_up i (by omega), show IntKind.i64.wrap ((i : Int) * 116) = ((i * 116 : Nat) : Int) by rw [w64_id (by omega) (by omega)]; omega, show IntKind.i64.wrap (((i + 1 : Nat) : Int) * 116) = (((i + 1) * 116 : Nat) : Int) by rw [w64_id (by omega) (by omega)]; omega]
  have hm : mn (b.length : Int) (((i + 1) * 116 : Nat) : Int) = ((min b.length ((i + 1) * 116) : Nat) : Int) := by
    unfold mn
    split <;> omega
  rw [hm]
  refine ⟨by omega, by omega, by omega, ?_⟩
  unfold cutL chunk
  rw [Int.toNat_natCast, Int.toNat_natCast]
  by_cases h : b.length ≤ (i + 1) * 116
  · rw [Nat.min_eq_left h, List.take_length, List.take_of_length_le h]
  · rw [Nat.min_eq_right (by omega)]
/-! ### the disk -/
theorem up_ok {n : Nat} (hn : 1 ≤ n) (S c : Int) {A : Nat} (hA : A ≠ 1) (hA2 : A < 1000000) (f p : M) : disk_Disk_up n (((), ()), ((S, (), (), c, (A : Int), false, ()), f, p, ())) = some ((true, ()), ((S, (), (), c, ((A - 1 : Nat) : Int), false, ()), f, p, ())) := by
  obtain ⟨n, rfl⟩ : ∃ k, n = k + 1 := ⟨n - 1, by omega⟩
  have h : disk_Disk_up_c4 n (((), ()), ((S, (), (), c, (A : Int), false, ()), f, p, ())) = some (.inl (((), ()), ((S, (), (), c, ((A - 1 : Nat) : Int), false, ()), f, p, ()))) := by
    simp only [disk_Disk_up_c4]
    rw [if_pos (by decide)]
    by_cases h0 : A = 0
    · subst h0
      rfl
    · rw [if_pos (decide_eq_true (show (A : Int) > 0 by omega)), show IntKind.i64.wrap ((A : Int) - 1) = ((A - 1 : Nat) : Int) by rw [w64_id (by omega) (by omega)]; omega, show (((A - 1 : Nat) : Int) == 0) = false by simp; omega]
  simp only [disk_Disk_up, h]
  rfl
theorem up_no {n : Nat} (hn : 1 ≤ n) (S c : Int) (f p : M) : disk_Disk_up n (((), ()), ((S, (), (), c, ((1 : Nat) : Int), false, ()), f, p, ())) = some ((false, ()), ((S, (), (), c, 0, true, ()), f, p, ())) := by
  obtain ⟨n, rfl⟩ : ∃ k, n = k + 1 := ⟨n - 1, by omega⟩
  rfl
theorem write1_at {n : Nat} (hn : 3 ≤ n) {S c i : Int} {A : Nat} (hA : A ≠ 1) (hA2 : A < 1000000) (h0 : 0 ≤ i) (h1 : i < S) (hc : 0 ≤ c ∧ c < 1000000000) {b : List Int} (hb : b.length ≤ 128) (f p : M) :
    disk_Disk_Write n (((), i, (), ()), ((S, (), (), c, (A : Int), false, ()), b, f, p, ())) = some ((ErrV.nil, ()), ((S, (), (), c + 1, ((A - 1 : Nat) : Int), false, ()), (), f, mset ki i b p, ())) := by
  obtain ⟨n, rfl⟩ : ∃ k, n = k + 1 := ⟨n - 1, by omega⟩
  simp only [disk_Disk_Write, up_ok (n := n) (by omega) S c hA hA2]
  rw [if_neg (by decide), if_neg (by simp; omega), if_neg (by simp; omega), if_neg (by simp; omega), clone_at (by omega) b (by omega)]
  simp only []
  rw [w64_id (by omega) (by omega)]
theorem write1_no {n : Nat} (hn : 3 ≤ n) (S c i : Int) (b : List Int) (f p : M) :
    disk_Disk_Write n (((), i, (), ()), ((S, (), (), c, ((1 : Nat) : Int), false, ()), b, f, p, ())) = some ((ErrV.sent 119, ()), ((S, (), (), c, 0, true, ()), (), f, p, ())) := by
  obtain ⟨n, rfl⟩ : ∃ k, n = k + 1 := ⟨n - 1, by omega⟩
  simp only [disk_Disk_Write, up_no (n := n) (by omega) S c]
  rfl
/-- The sectors that are pending, so far. -/
def wp (at_ : Nat) (q : Int) (b : List Int) : Nat → M
  | 0 => []
  | i + 1 => mset ki ((at_ + i : Nat) : Int) (sect q b i) (wp at_ q b i)
theorem mset_keys (k : Int) (v : List Int) : ∀ m : M, ∀ x ∈ (mset ki k v m).map Prod.fst, x = k ∨ x ∈ m.map Prod.fst
  | [], x, h => by simp [mset] at h; exact .inl h
  | p :: m, x, h => by
    unfold mset at h
    by_cases e : ki k p.1 = true
    · rw [if_pos e] at h
      simp only [List.map_cons, List.mem_cons] at h ⊢
      rcases h with h | h
      · exact .inl h
      · exact .inr (.inr h)
    · rw [if_neg e] at h
      simp only [List.map_cons, List.mem_cons] at h ⊢
      rcases h with h | h
      · exact .inr (.inl h)
      · rcases mset_keys k v m x h with h | h
        · exact .inl h
        · exact .inr (.inr h)
theorem mset_len (k : Int) (v : List Int) : ∀ m : M, (mset ki k v m).length ≤ m.length + 1
  | [] => by simp [mset]
  | p :: m => by
    unfold mset
    split
    · simp
    · have := mset_len k v m
      simp only [List.length_cons]
      omega
theorem wp_keys (at_ : Nat) (q : Int) (b : List Int) : ∀ i, ∀ x ∈ (wp at_ q b i).map Prod.fst, (at_ : Int) ≤ x ∧ x < (at_ + i : Nat)
  | 0, x, h => by simp [wp] at h
  | i + 1, x, h => by
    rcases mset_keys _ _ _ x h with h | h
    · omega
    · have := wp_keys at_ q b i x h
      omega
theorem wp_len (at_ : Nat) (q : Int) (b : List Int) : ∀ i, (wp at_ q b i).length ≤ i
  | 0 => by simp [wp]
  | i + 1 => by
    have h1 := mset_len ((at_ + i : Nat) : Int) (sect q b i) (wp at_ q b i)
    have h2 := wp_len at_ q b i
    show (mset ki _ _ _).length ≤ _
    omega
/-- What is flushed lies within the disk. -/
structure Fl (S : Int) (f : M) (L : Nat) : Prop where
  k : ∀ x ∈ f.map Prod.fst, 0 ≤ x ∧ x < S
  len : f.length ≤ L
theorem wf_of {f : M} (h : ∀ x ∈ f.map Prod.fst, 0 ≤ x ∧ x < 1000000) : wfKeys (V := List Int) f = true := by
  unfold wfKeys
  rw [List.all_eq_true]
  intro p hp
  have := h p.1 (List.mem_map.2 ⟨p, hp, rfl⟩)
  simp only [Lit.wf, IntKind.min, IntKind.max, IntKind.bits, IntKind.signed]
  simp
  omega
theorem merge_keys {f p : M} {x : Int} (h : x ∈ (mergeM f p).map Prod.fst) : x ∈ f.map Prod.fst ∨ x ∈ p.map Prod.fst := by
  unfold mergeM at h
  rw [List.map_append, List.mem_append] at h
  rcases h with h | h
  · exact .inl (((List.filter_sublist (l := f)).map Prod.fst).subset h)
  · exact .inr h
theorem merge_len (f p : M) : (mergeM f p).length ≤ f.length + p.length := by
  unfold mergeM
  rw [List.length_append]
  have := List.length_filter_le (fun q : Int × List Int => !p.any fun r => r.1 == q.1) f
  omega
theorem flush_at {n : Nat} (hn : 3 ≤ n) {S c : Int} (hS : S ≤ 16384) {A : Nat} (hA : A ≠ 1) (hA2 : A < 1000000) (hc : 0 ≤ c ∧ c < 1000000000) {f p : M} {L : Nat} (hf : Fl S f L) (hp : Fl S p L) (hL : L ≤ 1000000) :
    disk_Disk_Flush n (((), ()), ((S, (), (), c, (A : Int), false, ()), f, p, ())) = some ((ErrV.nil, ()), ((S, (), (), c + 1, ((A - 1 : Nat) : Int), false, ()), mergeM f p, [], ())) := by
  obtain ⟨n, rfl⟩ : ∃ k, n = k + 1 := ⟨n - 1, by omega⟩
  have h1 := hf.len
  have h2 := hp.len
  have e : maps_Copy_66 n (((), (), ()), (f, p, ())) = some (((), ()), (mergeM f p, p, ())) := by
    show copySem ty2 false _ = _
    unfold copySem
    rw [if_pos (show wfKeys (V := List Int) f = true from wf_of (fun x hx => by have := hf.k x hx; omega)), if_pos (show wfKeys (V := List Int) p = true from wf_of (fun x hx => by have := hp.k x hx; omega)), if_pos (show List.length (α := Int × List Int) f + List.length (α := Int × List Int) p ≤ 1099511627776 by omega)]
  simp only [disk_Disk_Flush, up_ok (n := n) (by omega) S c hA hA2, e]
  rw [if_neg (by decide), w64_id (by omega) (by omega)]
theorem flush_no {n : Nat} (hn : 3 ≤ n) (S c : Int) (f p : M) :
    disk_Disk_Flush n (((), ()), ((S, (), (), c, ((1 : Nat) : Int), false, ()), f, p, ())) = some ((ErrV.sent 119, ()), ((S, (), (), c, 0, true, ()), f, p, ())) := by
  obtain ⟨n, rfl⟩ : ∃ k, n = k + 1 := ⟨n - 1, by omega⟩
  simp only [disk_Disk_Flush, up_no (n := n) (by omega) S c]
  rfl
/-- The sectors' loop: so many are written. -/
theorem write_step {n : Nat} (hn : 100 < n) {S c : Int} (hS : S ≤ 16384) {at_ : Nat} (b : List Int) (hb : b.length < 1000000000) (hroom : ((at_ + secs b.length : Nat) : Int) ≤ S) (hc : 0 ≤ c ∧ c < 100000000) {q : Int} (h e : Int) (m : MM) (f : M) {A : Nat} (hA2 : A < 1000000) (i k : Nat) (hi : i < secs b.length) (hA : A - i ≠ 1) :
    jour_Store_write_l4 n (k + 1) (((), (at_ : Int), b, (secs b.length : Int), (secs b.length : Int), (i : Int), ()), (((), (), h, e, q, ()), (S, (), (), c + (i : Int), ((A - i : Nat) : Int), false, ()), m, f, wp at_ q b i, ())) = jour_Store_write_l4 n k (((), (at_ : Int), b, (secs b.length : Int), (secs b.length : Int), ((i + 1 : Nat) : Int), ()), (((), (), h, e, q, ()), (S, (), (), c + ((i + 1 : Nat) : Int), ((A - (i + 1) : Nat) : Int), false, ()), m, f, wp at_ q b (i + 1), ())) := by
  obtain ⟨c0, c1, c2, c3⟩ := chunk_at b hb hi
  have hcl := chunk_len b i
  have hsl := sect_len q b i
  have hat : IntKind.i64.wrap ((at_ : Int) + (i : Int)) = ((at_ + i : Nat) : Int) := by rw [w64_id (by omega) (by omega)]; omega
  simp only [jour_Store_write_l4]
  rw [if_pos (decide_eq_true (show (i : Int) < (secs b.length : Int) by omega)), show jour_number n (((), q, 8, ()), ([], ())) = some (((), ()), ((), numB q 8, ())) by
    have := number_at (n := n) q 8 (by omega) (by omega) [] (by simp)
    simpa using this]
  simp only []
  rw [show jour_number n (((), (i : Int), 2, ()), (numB q 8, ())) = _ from number_at (n := n) (i : Int) 2 (by omega) (by omega) (numB q 8) (by rw [numB_len]; omega)]
  simp only []
  rw [show jour_number n (((), (secs b.length : Int), 2, ()), (numB q 8 ++ numB (i : Int) 2, ())) = _ from number_at (n := n) (secs b.length : Int) 2 (by omega) (by omega) (numB q 8 ++ numB (i : Int) 2) (by simp only [List.length_append, numB_len]; omega)]
  simp only []
  rw [if_pos ⟨c0, c1, c2⟩, c3, if_pos (by simp only [List.length_append, numB_len]; omega), hat]
  rw [show ((numB q 8 ++ numB (i : Int) 2) ++ numB (secs b.length : Int) 2) ++ chunk b i = sect q b i from rfl, write1_at (by omega) hA (by omega) (by omega) (by omega) ⟨by omega, by omega⟩ hsl]
  simp only []
  rw [if_neg (by decide), w64_up i (by omega), show c + (i : Int) + 1 = c + ((i + 1 : Nat) : Int) by omega, show A - i - 1 = A - (i + 1) by omega]
  rfl
theorem write_stop {n : Nat} (hn : 100 < n) {S c : Int} (hS : S ≤ 16384) {at_ : Nat} (b : List Int) (hb : b.length < 1000000000) (hroom : ((at_ + secs b.length : Nat) : Int) ≤ S) {q : Int} (h e : Int) (m : MM) (f p : M) (i k : Nat) (hi : i < secs b.length) :
    jour_Store_write_l4 n (k + 1) (((), (at_ : Int), b, (secs b.length : Int), (secs b.length : Int), (i : Int), ()), (((), (), h, e, q, ()), (S, (), (), c, ((1 : Nat) : Int), false, ()), m, f, p, ())) = some (.inr (.inl ((ErrV.sent 119, ()), (((), (), h, e, q, ()), (S, (), (), c, 0, true, ()), m, f, p, ())))) := by
  obtain ⟨c0, c1, c2, c3⟩ := chunk_at b hb hi
  have hcl := chunk_len b i
  have hsl := sect_len q b i
  have hat : IntKind.i64.wrap ((at_ : Int) + (i : Int)) = ((at_ + i : Nat) : Int) := by rw [w64_id (by omega) (by omega)]; omega
  simp only [jour_Store_write_l4]
  rw [if_pos (decide_eq_true (show (i : Int) < (secs b.length : Int) by omega)), show jour_number n (((), q, 8, ()), ([], ())) = some (((), ()), ((), numB q 8, ())) by
    have := number_at (n := n) q 8 (by omega) (by omega) [] (by simp)
    simpa using this]
  simp only []
  rw [show jour_number n (((), (i : Int), 2, ()), (numB q 8, ())) = _ from number_at (n := n) (i : Int) 2 (by omega) (by omega) (numB q 8) (by rw [numB_len]; omega)]
  simp only []
  rw [show jour_number n (((), (secs b.length : Int), 2, ()), (numB q 8 ++ numB (i : Int) 2, ())) = _ from number_at (n := n) (secs b.length : Int) 2 (by omega) (by omega) (numB q 8 ++ numB (i : Int) 2) (by simp only [List.length_append, numB_len]; omega)]
  simp only []
  rw [if_pos ⟨c0, c1, c2⟩, c3, if_pos (by simp only [List.length_append, numB_len]; omega), hat]
  rw [show ((numB q 8 ++ numB (i : Int) 2) ++ numB (secs b.length : Int) 2) ++ chunk b i = sect q b i from rfl, show disk_Disk_Write n (((), ((at_ + i : Nat) : Int), (), ()), ((S, (), (), c, ((1 : Nat) : Int), false, ()), sect q b i, f, p, ())) = _ from write1_no (by omega) S c _ _ f p]
  simp only []
  rw [if_pos (by decide)]
/-- Does an arm let so many calls do well? -/
def Fine (A k : Nat) : Prop := A = 0 ∨ k < A
theorem write_at {n : Nat} (hn : 20000 < n) {S c : Int} (hS : S ≤ 16384) {at_ : Nat} (b : List Int) (hb : b.length < 1000000000) (hroom : ((at_ + secs b.length : Nat) : Int) ≤ S) (hc : 0 ≤ c ∧ c < 100000000) {q : Int} (hq : 0 ≤ q ∧ q < 1000000000) (h e : Int) (m : MM) {f : M} {L : Nat} (hf : Fl S f L) (hL : L ≤ 500000) {A : Nat} (hA2 : A < 1000000) (hA : Fine A (secs b.length + 1)) :
    jour_Store_write n (((), (at_ : Int), b, ()), (((), (), h, e, q, ()), (S, (), (), c, (A : Int), false, ()), m, f, [], ())) = some ((ErrV.nil, ()), (((), (), h, e, q + 1, ()), (S, (), (), c + (secs b.length : Int) + 1, ((A - (secs b.length + 1) : Nat) : Int), false, ()), m, mergeM f (wp at_ (q + 1) b (secs b.length)), [], ())) := by
  obtain ⟨n, rfl⟩ : ∃ k, n = k + 1 := ⟨n - 1, by omega⟩
  unfold Fine at hA
  have hloop := for_all (F := jour_Store_write_l4 n) (len := secs b.length) (fun i => (((), (at_ : Int), b, (secs b.length : Int), (secs b.length : Int), (i : Int), ()), (((), (), h, e, q + 1, ()), (S, (), (), c + (i : Int), ((A - i : Nat) : Int), false, ()), m, f, wp at_ (q + 1) b i, ()))) (r := some (.inl (((), ()), (((), (), h, e, q + 1, ()), (S, (), (), c + (secs b.length : Int), ((A - secs b.length : Nat) : Int), false, ()), m, f, wp at_ (q + 1) b (secs b.length), ())))) (fun i k hi => write_step (by omega) hS b hb hroom hc h e m f hA2 i k hi (by omega)) (fun k => by
    simp only [jour_Store_write_l4]
    rw [if_neg (by simp)]) (k := n) (by omega)
  simp only [jour_Store_write, sectors2_at (n := n) (by omega) b hb]
  rw [w64_id (by omega) (by omega)]
  rw [show jour_Store_write_l4 n n (((), (at_ : Int), b, (secs b.length : Int), (secs b.length : Int), 0, ()), (((), (), h, e, q + 1, ()), (S, (), (), c, (A : Int), false, ()), m, f, [], ())) = _ by
    have := hloop
    simp only [Int.natCast_zero, Int.add_zero, Nat.sub_zero] at this
    exact this]
  simp only []
  have hwl := wp_len at_ (q + 1) b (secs b.length)
  rw [flush_at (L := L + 16384) (by omega) hS (by omega) (by omega) ⟨by omega, by omega⟩ ⟨hf.k, by have := hf.len; omega⟩ ⟨fun x hx => by have := wp_keys at_ (q + 1) b _ x hx; omega, by omega⟩ (by omega), show A - secs b.length - 1 = A - (secs b.length + 1) by omega]
/-- The power goes in it: so many sectors pend. -/
theorem write_fell {n : Nat} (hn : 20000 < n) {S c : Int} (hS : S ≤ 16384) {at_ : Nat} (b : List Int) (hb : b.length < 1000000000) (hroom : ((at_ + secs b.length : Nat) : Int) ≤ S) (hc : 0 ≤ c ∧ c < 100000000) {q : Int} (hq : 0 ≤ q ∧ q < 1000000000) (h e : Int) (m : MM) (f : M) {t : Nat} (ht : t ≤ secs b.length) :
    jour_Store_write n (((), (at_ : Int), b, ()), (((), (), h, e, q, ()), (S, (), (), c, ((t + 1 : Nat) : Int), false, ()), m, f, [], ())) = some ((ErrV.sent 119, ()), (((), (), h, e, q + 1, ()), (S, (), (), c + (t : Int), 0, true, ()), m, f, wp at_ (q + 1) b t, ())) := by
  obtain ⟨n, rfl⟩ : ∃ k, n = k + 1 := ⟨n - 1, by omega⟩
  simp only [jour_Store_write, sectors2_at (n := n) (by omega) b hb]
  rw [w64_id (by omega) (by omega)]
  rcases Nat.lt_or_ge t (secs b.length) with hlt | hge
  · have hloop := for_all (F := jour_Store_write_l4 n) (len := t) (fun i => (((), (at_ : Int), b, (secs b.length : Int), (secs b.length : Int), (i : Int), ()), (((), (), h, e, q + 1, ()), (S, (), (), c + (i : Int), ((t + 1 - i : Nat) : Int), false, ()), m, f, wp at_ (q + 1) b i, ()))) (r := some (.inr (.inl ((ErrV.sent 119, ()), (((), (), h, e, q + 1, ()), (S, (), (), c + (t : Int), 0, true, ()), m, f, wp at_ (q + 1) b t, ()))))) (fun i k hi => write_step (by omega) hS b hb hroom hc h e m f (by omega) i k (by omega) (by omega)) (fun k => by
      have := write_stop (n := n) (by omega) (c := c + (t : Int)) hS b hb hroom (q := q + 1) h e m f (wp at_ (q + 1) b t) t k hlt
      rw [← this, show t + 1 - t = 1 by omega]) (k := n) (by omega)
    rw [show jour_Store_write_l4 n n (((), (at_ : Int), b, (secs b.length : Int), (secs b.length : Int), 0, ()), (((), (), h, e, q + 1, ()), (S, (), (), c, ((t + 1 : Nat) : Int), false, ()), m, f, [], ())) = _ by
      have := hloop
      simp only [Int.natCast_zero, Int.add_zero, Nat.sub_zero] at this
      exact this]
  · obtain rfl : t = secs b.length := by omega
    have hloop := for_all (F := jour_Store_write_l4 n) (len := secs b.length) (fun i => (((), (at_ : Int), b, (secs b.length : Int), (secs b.length : Int), (i : Int), ()), (((), (), h, e, q + 1, ()), (S, (), (), c + (i : Int), ((secs b.length + 1 - i : Nat) : Int), false, ()), m, f, wp at_ (q + 1) b i, ()))) (r := some (.inl (((), ()), (((), (), h, e, q + 1, ()), (S, (), (), c + (secs b.length : Int), ((1 : Nat) : Int), false, ()), m, f, wp at_ (q + 1) b (secs b.length), ())))) (fun i k hi => write_step (by omega) hS b hb hroom hc h e m f (by omega) i k hi (by omega)) (fun k => by
      simp only [jour_Store_write_l4]
      rw [if_neg (by simp), show secs b.length + 1 - secs b.length = 1 by omega]) (k := n) (by omega)
    rw [show jour_Store_write_l4 n n (((), (at_ : Int), b, (secs b.length : Int), (secs b.length : Int), 0, ()), (((), (), h, e, q + 1, ()), (S, (), (), c, ((secs b.length + 1 : Nat) : Int), false, ()), m, f, [], ())) = _ by
      have := hloop
      simp only [Int.natCast_zero, Int.add_zero, Nat.sub_zero] at this
      exact this]
    simp only []
    rw [flush_no (by omega) S _ f _]
end Go.Proofs.YthbbokndogjopaaGreatDoor.Pure

namespace Go.Proofs.YthbbokndogjopaaGreatDoor.Pure
open Go Go.Lib Go.Proofs.YthbbokndogjopaaGreatDoor.Cm
set_option linter.unusedVariables false
set_option linter.unusedSimpArgs false
set_option maxRecDepth 100000
abbrev ChT := ByteArray × ByteArray × Bool
abbrev ks : ByteArray → ByteArray → Bool := keyEq (.str : Ty)
def apC (m : MM) (c : ChT) : MM := if c.2.2 then mdel ks c.1 m else mset ks c.1 c.2.1 m
def appl (m : MM) (l : List ChT) : MM := l.foldl apC m
theorem appl_take (m : MM) (l : List ChT) (i : Nat) (hi : i < l.length) (d : ChT) : appl m (l.take (i + 1)) = apC (appl m (l.take i)) (l.getD i d) := by
  unfold appl
  rw [take_succ l i hi d, List.foldl_append]
  rfl
theorem apply_at {n : Nat} (m : MM) (l : List ChT) (hn : l.length + 3 < n) (hl : l.length < 1000000) : jour_apply n (((), l, ()), (m, ())) = some (((), ()), (appl m l, ())) := by
  obtain ⟨n, rfl⟩ : ∃ m, n = m + 1 := ⟨n - 1, by omega⟩
  have h := for_all (F := jour_apply_l1 n) (len := l.length) (fun i => (((), l, (l.length : Int), (i : Int), ()), (appl m (l.take i), ()))) (r := some (.inl ((), (appl m l, ())))) (fun i k hi => by
    rw [appl_take m l i hi (Ty.dflt ty0)]
    simp only [jour_apply_l1]
    rw [if_pos (decide_eq_true (show (i : Int) < (l.length : Int) by omega)), if_pos (show 0 ≤ (i : Int) ∧ (i : Int) < (l.length : Int) from ⟨by omega, by omega⟩), rdT_nat, w64_up i (by omega)]
    unfold apC
    by_cases hg : (l.getD i (Ty.dflt ty0)).2.2 = true
    · rw [if_pos hg, if_pos hg]
    · rw [if_neg hg, if_neg hg]) (fun k => by
    simp only [jour_apply_l1]
    rw [if_neg (by simp), List.take_length]) (k := n) (by omega)
  simp only [jour_apply]
  rw [show jour_apply_l1 n n (((), l, (l.length : Int), 0, ()), (m, ())) = _ from h]
def okK (c : ChT) : Bool := decide (1 ≤ c.1.size) && decide (c.1.size ≤ 40)
def okV (c : ChT) : Bool := decide (c.2.1.size ≤ 32768)
/-- What is amiss. -/
def bad (m : MM) (l : List ChT) : Option Nat := if l.all okK = false then some 104 else if l.all okV = false then some 103 else if 256 < (appl m l).length then some 103 else none
theorem all_take {l : List ChT} {p : ChT → Bool} {i : Nat} (hi : i < l.length) (d : ChT) (h : (l.take i).all p = true) (hp : p (l.getD i d) = true) : (l.take (i + 1)).all p = true := by
  rw [take_succ l i hi d, List.all_append, h]
  show (true && (p (l.getD i d) && true)) = true
  rw [hp]
  rfl
theorem all_false {l : List ChT} {p : ChT → Bool} {i : Nat} (hi : i < l.length) (d : ChT) (hp : p (l.getD i d) = false) : l.all p = false := by
  cases h : l.all p with
  | false => rfl
  | true =>
    rw [List.all_eq_true] at h
    rw [h _ (getD_mem l i hi d)] at hp
    cases hp
theorem fits_at {n : Nat} (l : List ChT) (hn : l.length + 10 < n) (hl : l.length < 1000000) (h e q S c A : Int) (dn : Bool) (m : MM) (f p : M) :
    jour_Store_fits n (((), l, ()), (((), (), h, e, q, ()), (S, (), (), c, A, dn, ()), m, f, p, ())) =
      match bad m l with
      | some code => some (.inr ((((((), ()), (ErrV.sent code, ()), ()), ()), (((), (), h, e, q, ()), (S, (), (), c, A, dn, ()), m, f, p, ()))))
      | none => some (.inl (((((), ()), (ErrV.nil, ()), ()), ()), (((), (), h, e, q, ()), (S, (), (), c, A, dn, ()), m, f, p, appl m l, ()))) := by
  obtain ⟨n, rfl⟩ : ∃ m, n = m + 1 := ⟨n - 1, by omega⟩
  have a := for_inv (F := jour_Store_fits_l2 n) (len := l.length) (st := fun i => (((), l, l, (l.length : Int), (i : Int), ()), (((), (), h, e, q, ()), (S, (), (), c, A, dn, ()), m, f, p, ()))) (fun i => (l.take i).all okK = true)
    (fun r => (r = some (.inl (((), l, ()), (((), (), h, e, q, ()), (S, (), (), c, A, dn, ()), m, f, p, ()))) ∧ l.all okK = true) ∨ (r = some (.inr (.inl (((), ErrV.sent 104, ()), (((), (), h, e, q, ()), (S, (), (), c, A, dn, ()), m, f, p, ())))) ∧ l.all okK = false)) (by simp) (fun i k hi hI => by
      simp only [jour_Store_fits_l2]
      rw [if_pos (decide_eq_true (show (i : Int) < (l.length : Int) by omega)), if_pos (show 0 ≤ (i : Int) ∧ (i : Int) < (l.length : Int) from ⟨by omega, by omega⟩), rdT_nat, w64_up i (by omega)]
      by_cases h1 : ((l.getD i (Ty.dflt ty0)).1.size : Int) < 1
      · rw [if_pos (decide_eq_true h1)]
        refine .inr (.inr ⟨rfl, all_false hi (Ty.dflt ty0) ?_⟩)
        unfold okK
        rw [decide_eq_false (by omega)]
        rfl
      · rw [if_neg (by simpa using h1)]
        by_cases h2 : ((l.getD i (Ty.dflt ty0)).1.size : Int) > 40
        · rw [if_pos (decide_eq_true h2)]
          refine .inr (.inr ⟨rfl, all_false hi (Ty.dflt ty0) ?_⟩)
          unfold okK
          rw [decide_eq_false (show ¬ (l.getD i (Ty.dflt ty0)).1.size ≤ 40 by omega), Bool.and_false]
        · rw [if_neg (by simpa using h2)]
          refine .inl ⟨all_take hi (Ty.dflt ty0) hI ?_, rfl⟩
          unfold okK
          rw [decide_eq_true (by omega), decide_eq_true (by omega)]
          rfl) (fun k hI => by
      rw [List.take_length] at hI
      refine .inl ⟨?_, hI⟩
      simp only [jour_Store_fits_l2]
      rw [if_neg (by simp)]) n (by omega)
  have b := for_inv (F := jour_Store_fits_l8 n) (len := l.length) (st := fun i => (((), l, l, (l.length : Int), (i : Int), ()), (((), (), h, e, q, ()), (S, (), (), c, A, dn, ()), m, f, p, ()))) (fun i => (l.take i).all okV = true)
    (fun r => (r = some (.inl (((), l, ()), (((), (), h, e, q, ()), (S, (), (), c, A, dn, ()), m, f, p, ()))) ∧ l.all okV = true) ∨ (r = some (.inr (.inl (((), ErrV.sent 103, ()), (((), (), h, e, q, ()), (S, (), (), c, A, dn, ()), m, f, p, ())))) ∧ l.all okV = false)) (by simp) (fun i k hi hI => by
      simp only [jour_Store_fits_l8]
      rw [if_pos (decide_eq_true (show (i : Int) < (l.length : Int) by omega)), if_pos (show 0 ≤ (i : Int) ∧ (i : Int) < (l.length : Int) from ⟨by omega, by omega⟩), rdT_nat, w64_up i (by omega)]
      by_cases h1 : ((l.getD i (Ty.dflt ty0)).2.1.size : Int) > 32768
      · rw [if_pos (decide_eq_true h1)]
        refine .inr (.inr ⟨rfl, all_false hi (Ty.dflt ty0) ?_⟩)
        unfold okV
        rw [decide_eq_false (by omega)]
      · rw [if_neg (by simpa using h1)]
        refine .inl ⟨all_take hi (Ty.dflt ty0) hI ?_, rfl⟩
        unfold okV
        rw [decide_eq_true (by omega)]) (fun k hI => by
      rw [List.take_length] at hI
      refine .inl ⟨?_, hI⟩
      simp only [jour_Store_fits_l8]
      rw [if_neg (by simp)]) n (by omega)
  have ea : ∀ r, jour_Store_fits_l2 n n (((), l, l, (l.length : Int), ((0 : Nat) : Int), ()), (((), (), h, e, q, ()), (S, (), (), c, A, dn, ()), m, f, p, ())) = r → jour_Store_fits_l2 n n (((), l, l, (l.length : Int), 0, ()), (((), (), h, e, q, ()), (S, (), (), c, A, dn, ()), m, f, p, ())) = r := fun r h => h
  have eb : ∀ r, jour_Store_fits_l8 n n (((), l, l, (l.length : Int), ((0 : Nat) : Int), ()), (((), (), h, e, q, ()), (S, (), (), c, A, dn, ()), m, f, p, ())) = r → jour_Store_fits_l8 n n (((), l, l, (l.length : Int), 0, ()), (((), (), h, e, q, ()), (S, (), (), c, A, dn, ()), m, f, p, ())) = r := fun r h => h
  simp only [jour_Store_fits]
  unfold bad
  rcases a with ⟨a, ha⟩ | ⟨a, ha⟩
  · rw [ea _ a, if_neg (by rw [ha]; decide)]
    simp only []
    rcases b with ⟨b, hb⟩ | ⟨b, hb⟩
    · rw [eb _ b, if_neg (by rw [hb]; decide)]
      simp only []
      rw [show maps_Clone_33 n (((), ()), (m, ())) = some (((), ()), (m, m, ())) from rfl]
      simp only []
      rw [apply_at m l (by omega) hl]
      simp only []
      by_cases h3 : 256 < (appl m l).length
      · rw [if_pos h3, if_pos (decide_eq_true (show ((appl m l).length : Int) > 256 by omega))]
      · rw [if_neg h3, if_neg (by simp; omega)]
    · rw [eb _ b, if_pos hb]
  · rw [ea _ a, if_pos ha]
/-! ### what is written -/
def chE (c : ChT) : List Int := (txt c.1 ++ enc (if c.2.2 then 1 else 0)) ++ (if c.2.2 then [] else txt c.2.1)
def by_ (kind : Int) (l : List ChT) : List Int := (enc kind ++ enc (l.length : Int)) ++ l.flatMap chE
theorem chE_len {c : ChT} (h1 : c.1.size ≤ 40) (h2 : c.2.1.size ≤ 32768) : (chE c).length ≤ 32838 := by
  obtain ⟨c1, c2, c3⟩ := c
  have a := txt_len c1
  have b := txt_len c2
  have d0 := (enc_len 0).2
  have d1 := (enc_len 1).2
  simp only at h1 h2
  cases c3 with
  | true =>
    show ((txt c1 ++ enc 1) ++ []).length ≤ _
    simp only [List.length_append, List.length_nil]
    omega
  | false =>
    show ((txt c1 ++ enc 0) ++ txt c2).length ≤ _
    simp only [List.length_append]
    omega
theorem flat_len {α : Type} (f : α → List Int) (m : Nat) : ∀ (l : List α), (∀ c ∈ l, (f c).length ≤ m) → (l.flatMap f).length ≤ m * l.length
  | [], _ => by simp
  | a :: l, h => by
    have h1 := h a List.mem_cons_self
    have h2 := flat_len f m l (fun c hc => h c (List.mem_cons_of_mem _ hc))
    simp only [List.flatMap_cons, List.length_append, List.length_cons, Nat.mul_add, Nat.mul_one]
    omega
theorem flat_take {α : Type} (f : α → List Int) (l : List α) (i : Nat) (h : i < l.length) (d : α) : (l.take (i + 1)).flatMap f = (l.take i).flatMap f ++ f (l.getD i d) := by
  rw [take_succ l i h d]
  simp
theorem by_len {kind : Int} {l : List ChT} (h : ∀ c ∈ l, c.1.size ≤ 40 ∧ c.2.1.size ≤ 32768) : (by_ kind l).length ≤ 20 + 32838 * l.length := by
  have h1 := (enc_len kind).2
  have h2 := (enc_len (l.length : Int)).2
  have h3 := flat_len chE 32838 l (fun c hc => chE_len (h c hc).1 (h c hc).2)
  simp only [by_, List.length_append]
  omega
theorem bytes_at {n : Nat} {l : List ChT} (hn : l.length + 100 < n) (hl : l.length ≤ 1000) (hs : ∀ c ∈ l, c.1.size ≤ 40 ∧ c.2.1.size ≤ 32768) {kind : Int} (hk : I64 kind) : jour_bytes n ((kind, l, ()), ()) = some (((), ()), (by_ kind l, ())) := by
  obtain ⟨n, rfl⟩ : ∃ m, n = m + 1 := ⟨n - 1, by omega⟩
  have k1 := (enc_len kind).2
  have k2 := (enc_len (l.length : Int)).2
  have h := for_all (F := jour_bytes_l4 n) (len := l.length) (fun i => (((), l, (l.length : Int), (i : Int), ()), ((enc kind ++ enc (l.length : Int)) ++ (l.take i).flatMap chE, ()))) (r := some (.inl (((), ()), (by_ kind l, ())))) (fun i k hi => by
    have hm := hs _ (getD_mem l i hi (Ty.dflt ty0))
    have hfl : ((l.take i).flatMap chE).length ≤ 32838 * 1000 := by
      have h1 := flat_len chE 32838 (l.take i) (fun c hc => chE_len (hs c (List.mem_of_mem_take hc)).1 (hs c (List.mem_of_mem_take hc)).2)
      have h2 : (l.take i).length ≤ 1000 := by rw [List.length_take]; omega
      exact Nat.le_trans h1 (Nat.mul_le_mul_left _ h2)
    rw [flat_take chE l i hi (Ty.dflt ty0)]
    generalize hc : (l.getD i (Ty.dflt ty0) : ChT) = cc at hm
    obtain ⟨c1, c2, c3⟩ := cc
    have t1 := txt_len c1
    have t2 := txt_len c2
    simp only at hm
    have g9 : jour_bytes_c9 n (((), (), 0, l, (l.length : Int), (i : Int), ()), ((enc kind ++ enc (l.length : Int)) ++ (l.take i).flatMap chE, (c1, c2, c3, ()), ())) = some (.inl (((), (), (if c3 then 1 else 0), l, (l.length : Int), (i : Int), ()), ((enc kind ++ enc (l.length : Int)) ++ (l.take i).flatMap chE, (c1, c2, c3, ()), ()))) := by
      simp only [jour_bytes_c9]
      cases c3 <;> rfl
    have gi : I64 (if c3 then 1 else 0) := by cases c3 <;> exact ⟨by decide, by decide⟩
    have e1 := (enc_len (if c3 then 1 else 0)).2
    have hc' : rdT ty0 l (i : Int) = (c1, c2, c3) := hc
    simp only [jour_bytes_l4]
    rw [if_pos (decide_eq_true (show (i : Int) < (l.length : Int) by omega)), if_pos (show 0 ≤ (i : Int) ∧ (i : Int) < (l.length : Int) from ⟨by omega, by omega⟩), hc', g9]
    simp only []
    rw [PutText_at (by omega) c1 [] (by simp; omega)]
    simp only [List.nil_append]
    rw [Put_at (by omega) gi (txt c1) (by omega)]
    simp only []
    rw [if_pos (by simp only [List.length_append]; omega)]
    cases c3 with
    | true =>
      rw [if_neg (by decide), w64_up i (by omega), List.append_assoc, List.append_assoc]
      simp only [chE, if_true, List.append_nil, List.append_assoc]
    | false =>
      rw [if_pos (by decide), PutText_at (by omega) c2 [] (by simp; omega)]
      simp only [List.nil_append]
      rw [if_pos (by simp only [List.length_append]; omega), w64_up i (by omega)]
      simp only [chE, Bool.false_eq_true, if_false, List.append_assoc]) (fun k => by
    simp only [jour_bytes_l4]
    rw [if_neg (by simp), List.take_length]
    rfl) (k := n) (by omega)
  simp only [jour_bytes]
  rw [Put_at (by omega) hk [] (by simp)]
  simp only [List.nil_append]
  rw [Put_at (by omega) ⟨by omega, by omega⟩ (enc kind) (by omega)]
  simp only []
  rw [show jour_bytes_l4 n n (((), l, (l.length : Int), 0, ()), (enc kind ++ enc (l.length : Int), ())) = _ by
    have := h
    simp only [List.take_zero, List.flatMap_nil, List.append_nil] at this
    exact this]
end Go.Proofs.YthbbokndogjopaaGreatDoor.Pure

namespace Go.Proofs.YthbbokndogjopaaGreatDoor.Pure
open Go Go.Lib Go.Proofs.YthbbokndogjopaaGreatDoor.Cm
set_option linter.unusedVariables false
set_option linter.unusedSimpArgs false
set_option maxRecDepth 100000
abbrev keysM (m : MM) : List ByteArray := m.map Prod.fst
def getM (m : MM) (k : ByteArray) : ByteArray := (mfind ks k m).getD (⟨#[]⟩ : ByteArray)
/-- Records that may be. -/
def MI (m : MM) : Prop := m.length ≤ 300 ∧ ∀ p ∈ m, p.1.size ≤ 40 ∧ p.2.size ≤ 32768
theorem MI.wf {m : MM} (h : MI m) : wfKeysS (V := ByteArray) m = true := by
  unfold wfKeysS
  rw [List.all_eq_true]
  exact fun p hp => decide_eq_true (by have := (h.2 p hp).1; omega)
theorem mset_mem {k v : ByteArray} : ∀ {m : MM} {p : ByteArray × ByteArray}, p ∈ mset ks k v m → p = (k, v) ∨ p ∈ m
  | [], p, h => by simp [mset] at h; exact .inl h
  | a :: m, p, h => by
    unfold mset at h
    split at h
    · rcases List.mem_cons.1 h with h | h
      · exact .inl h
      · exact .inr (.tail _ h)
    · rcases List.mem_cons.1 h with h | h
      · exact .inr (by rw [h]; exact .head _)
      · rcases mset_mem h with h | h
        · exact .inl h
        · exact .inr (.tail _ h)
theorem mdel_mem {k : ByteArray} : ∀ {m : MM} {p : ByteArray × ByteArray}, p ∈ mdel ks k m → p ∈ m
  | [], p, h => h
  | a :: m, p, h => by
    unfold mdel at h
    split at h
    · exact .tail _ h
    · rcases List.mem_cons.1 h with h | h
      · rw [h]; exact .head _
      · exact .tail _ (mdel_mem h)
theorem appl_mem {m : MM} : ∀ {l : List ChT} {p : ByteArray × ByteArray}, p ∈ appl m l → p ∈ m ∨ ∃ c ∈ l, p = (c.1, c.2.1) := by
  intro l
  induction l generalizing m with
  | nil => exact fun h => .inl h
  | cons c l ih =>
    intro p h
    have h : p ∈ appl (apC m c) l := h
    rcases ih h with h | ⟨d, hd, e⟩
    · unfold apC at h
      split at h
      · exact .inl (mdel_mem h)
      · rcases mset_mem h with h | h
        · exact .inr ⟨c, .head _, h⟩
        · exact .inl h
    · exact .inr ⟨d, .tail _ hd, e⟩
theorem bad_none {m : MM} {l : List ChT} (h : bad m l = none) : (∀ c ∈ l, 1 ≤ c.1.size ∧ c.1.size ≤ 40 ∧ c.2.1.size ≤ 32768) ∧ (appl m l).length ≤ 256 := by
  unfold bad at h
  split at h
  · cases h
  rename_i h1
  split at h
  · cases h
  rename_i h2
  split at h
  · cases h
  rename_i h3
  have h1 : l.all okK = true := by simpa using h1
  have h2 : l.all okV = true := by simpa using h2
  rw [List.all_eq_true] at h1 h2
  refine ⟨fun c hc => ?_, by omega⟩
  have a := h1 c hc
  have b := h2 c hc
  unfold okK at a
  unfold okV at b
  simp only [Bool.and_eq_true, decide_eq_true_eq] at a b
  exact ⟨a.1, a.2, b⟩
theorem MI.appl {m : MM} (h : MI m) {l : List ChT} (hb : bad m l = none) : MI (appl m l) := by
  obtain ⟨h1, h2⟩ := bad_none hb
  refine ⟨by omega, fun p hp => ?_⟩
  rcases appl_mem hp with hp | ⟨c, hc, rfl⟩
  · exact h.2 p hp
  · exact (h1 c hc).2
theorem equal_at {n : Nat} {m1 m2 : MM} (h1 : MI m1) (h2 : MI m2) : maps_Equal_25 n (((), (), ()), (m1, m2, ())) = some ((equalM m1 m2, ()), (m1, m2, ())) := by
  show equalSem _ = _
  have a := h1.1
  have b := h2.1
  unfold equalSem
  rw [if_pos (show wfKeysS (V := ByteArray) m1 = true from h1.wf), if_pos (show wfKeysS (V := ByteArray) m2 = true from h2.wf), if_pos (show List.length (α := ByteArray × ByteArray) m1 ≤ 1099511627776 by omega), if_pos (show List.length (α := ByteArray × ByteArray) m2 ≤ 1099511627776 by omega)]
theorem sorted_at {n : Nat} {m : MM} (h : MI m) : slices_Sorted_62 n (((), ()), (((), ()), m, ())) = some (((), ()), (((), ()), m, sortS (keysM m), ())) := by
  show sortedSSem 63 9 .str false 62 _ = _
  have a := h.1
  unfold sortedSSem
  rw [if_pos (show wfKeysS (V := ByteArray) m = true from h.wf), if_pos (show List.length (α := ByteArray × ByteArray) m ≤ 1099511627776 by omega)]
theorem insS_perm (x : ByteArray) : ∀ l, (insS x l).Perm (x :: l)
  | [] => .refl _
  | y :: r => by
    unfold insS
    split
    · exact ((insS_perm x r).cons y).trans (.swap x y r)
    · exact .refl _
theorem sortS_perm : ∀ l : List ByteArray, (sortS l).Perm l
  | [] => .refl _
  | x :: l => by rw [sortS_cons]; exact (insS_perm x _).trans ((sortS_perm l).cons x)
/-- All records, as changes. -/
def dump (m : MM) : List ChT := (sortS (keysM m)).map fun k => (k, getM m k, false)
theorem dump_len (m : MM) : (dump m).length = m.length := by
  unfold dump
  rw [List.length_map, (sortS_perm _).length_eq, List.length_map]
theorem mfind_mem {k : ByteArray} : ∀ {m : MM} {v : ByteArray}, mfind ks k m = some v → (k, v) ∈ m
  | [], v, h => by cases h
  | p :: m, v, h => by
    unfold mfind at h
    by_cases e : ks k p.1 = true
    · rw [if_pos e] at h
      have := (keyS_true k p.1).1 e
      cases h
      rw [this]
      exact .head _
    · rw [if_neg e] at h
      exact .tail _ (mfind_mem h)
theorem dump_ok {m : MM} (h : MI m) : ∀ c ∈ dump m, c.1.size ≤ 40 ∧ c.2.1.size ≤ 32768 := by
  intro c hc
  unfold dump at hc
  obtain ⟨k, hk, rfl⟩ := List.mem_map.1 hc
  obtain ⟨p, hp, rfl⟩ := List.mem_map.1 ((sortS_perm _).mem_iff.1 hk)
  refine ⟨(h.2 p hp).1, ?_⟩
  show (getM m p.1).size ≤ _
  unfold getM
  cases e : mfind ks p.1 m with
  | none => exact Nat.zero_le _
  | some v => exact (h.2 _ (mfind_mem e)).2
/-- Which half comes next. -/
def nextH (h : Int) : Nat := if h = 0 then 1 else 0
theorem bounds_at {n : Nat} (hn : 2 ≤ n) {S : Nat} (hS : S ≤ 16384) {k : Nat} (hk : k ≤ 1) (c A : Int) (dn : Bool) (f p : M) :
    jour_bounds n (((), (k : Int), ()), (((S : Int), (), (), c, A, dn, ()), f, p, ())) = some ((((((k * (S / 2) : Nat) : Int), ()), ((((k + 1) * (S / 2) : Nat) : Int), ()), ()), ()), (((S : Int), (), (), c, A, dn, ()), f, p, ())) := by
  obtain ⟨n, rfl⟩ : ∃ k, n = k + 2 := ⟨n - 2, by omega⟩
  have e0 : disk_Disk_Sectors (n + 1) (((), ()), (((S : Int), (), (), c, A, dn, ()), f, p, ())) = some (((S : Int), ()), (((S : Int), (), (), c, A, dn, ()), f, p, ())) := rfl
  simp only [jour_bounds, e0]
  rw [show IntKind.i64.wrap (Int.tdiv (S : Int) 2) = ((S / 2 : Nat) : Int) by rw [Int.tdiv_eq_ediv_of_nonneg (by omega), w64_id (by omega) (by omega)]; omega]
  have hk2 : k = 0 ∨ k = 1 := by omega
  rcases hk2 with rfl | rfl
  · rw [show IntKind.i64.wrap (((0 : Nat) : Int) * ((S / 2 : Nat) : Int)) = ((0 * (S / 2) : Nat) : Int) by rw [w64_id (by omega) (by omega)]; omega, show IntKind.i64.wrap (((0 : Nat) : Int) + 1) = 1 from rfl, show IntKind.i64.wrap (1 * ((S / 2 : Nat) : Int)) = (((0 + 1) * (S / 2) : Nat) : Int) by rw [w64_id (by omega) (by omega)]; omega]
  · rw [show IntKind.i64.wrap (((1 : Nat) : Int) * ((S / 2 : Nat) : Int)) = ((1 * (S / 2) : Nat) : Int) by rw [w64_id (by omega) (by omega)]; omega, show IntKind.i64.wrap (((1 : Nat) : Int) + 1) = 2 from rfl, show IntKind.i64.wrap (2 * ((S / 2 : Nat) : Int)) = (((1 + 1) * (S / 2) : Nat) : Int) by rw [w64_id (by omega) (by omega)]; omega]
/-- The disk behind a call's writing. -/
def wr (f : M) (at_ : Nat) (q : Int) (b : List Int) : M := mergeM f (wp at_ q b (secs b.length))
/-- All records anew: told by what the writing does. -/
theorem all_via {n : Nat} (hn : 40000 < n) {S : Nat} (hS : S ≤ 16384) {c A : Int} {h e q : Int} {m m' : MM} (hm : MI m') {f p : M} {er : ErrV} {q2 c2 A2 : Int} {dn2 : Bool} {f2 p2 : M}
    (hW : secs (by_ 0 (dump m')).length ≤ S / 2 → jour_Store_write n (((), ((nextH h * (S / 2) : Nat) : Int), by_ 0 (dump m'), ()), (((), (), h, e, q, ()), ((S : Int), (), (), c, A, false, ()), m, f, p, ())) = some ((er, ()), (((), (), h, e, q2, ()), ((S : Int), (), (), c2, A2, dn2, ()), m, f2, p2, ()))) :
    jour_Store_all (n + 1) (((), (), ()), (((), (), h, e, q, ()), m', ((S : Int), (), (), c, A, false, ()), m, f, p, ())) =
      if secs (by_ 0 (dump m')).length ≤ S / 2 then
        if errNil er then some (.inr (((ErrV.nil, ()), (((), (), (nextH h : Int), ((nextH h * (S / 2) + secs (by_ 0 (dump m')).length : Nat) : Int), q2, ()), m', ((S : Int), (), (), c2, A2, dn2, ()), m, f2, p2, ()))))
        else some (.inl ((er, ()), (((), (), h, e, q2, ()), m', ((S : Int), (), (), c2, A2, dn2, ()), m, f2, p2, ())))
      else some (.inl ((ErrV.sent 118, ()), (((), (), h, e, q, ()), m', ((S : Int), (), (), c, A, false, ()), m, f, p, ()))) := by
  have hml := hm.1
  have hdl := dump_len m'
  have hok := dump_ok hm
  have hbl := by_len (kind := 0) hok
  have hsl : (sortS (keysM m')).length = m'.length := by rw [(sortS_perm _).length_eq, List.length_map]
  have hK : maps_Keys_map_string_string_string_string n (((), ()), (m', ())) = some (((), ()), (m', ((), ()), ())) := by
    obtain ⟨n, rfl⟩ : ∃ k, n = k + 1 := ⟨n - 1, by omega⟩
    rfl
  have hl3 := for_all (F := jour_Store_all_l3 n) (len := m'.length) (fun i => (((), (), (), (), (m'.length : Int), (i : Int), ()), (((), (), h, e, q, ()), m', ((S : Int), (), (), c, A, false, ()), m, f, p, ((sortS (keysM m')).take i).map (fun k => ((k, getM m' k, false) : ChT)), sortS (keysM m'), ()))) (r := some (.inl (((), (), (), ()), (((), (), h, e, q, ()), m', ((S : Int), (), (), c, A, false, ()), m, f, p, dump m', ())))) (fun i k hi => by
    simp only [jour_Store_all_l3]
    rw [if_pos (decide_eq_true (show (i : Int) < (m'.length : Int) by omega)), if_pos (show 0 ≤ (i : Int) ∧ (i : Int) < ((sortS (keysM m')).length : Int) from ⟨by omega, by omega⟩), rdT_nat, if_pos (by simp only [List.length_map, List.length_take, List.length_cons, List.length_nil]; omega), w64_up i (by omega), take_succ (sortS (keysM m')) i (by omega) (Ty.dflt .str), List.map_append]
    rfl) (fun k => by
    simp only [jour_Store_all_l3]
    rw [if_neg (by simp), ← hsl, List.take_length]
    rfl) (k := n) (by omega)
  simp only [List.take_zero, List.map_nil] at hl3
  have hB := bytes_at (n := n) (l := dump m') (by omega) (by omega) hok (kind := 0) ⟨by decide, by decide⟩
  generalize hb : by_ 0 (dump m') = b at hB hbl hW ⊢
  have hbl : b.length ≤ 9851420 := by rw [hdl] at hbl; omega
  have hc11 : jour_Store_all_c11 n (((), (), (), 0, ()), (((), (), h, e, q, ()), m', ((S : Int), (), (), c, A, false, ()), m, f, p, b, ())) = some (.inl (((), (), (), (nextH h : Int), ()), (((), (), h, e, q, ()), m', ((S : Int), (), (), c, A, false, ()), m, f, p, b, ()))) := by
    simp only [jour_Store_all_c11]
    unfold nextH
    by_cases h0 : h = 0
    · rw [if_pos (by simp [h0]), if_pos h0]; rfl
    · rw [if_neg (by simpa using h0), if_neg h0]; rfl
  have hnh : nextH h ≤ 1 := by unfold nextH; split <;> omega
  have hnm : nextH h = 0 ∨ nextH h = 1 := by omega
  have hD : disk_Disk_Down n (((), ()), (((S : Int), (), (), c, A, false, ()), f, p, ())) = some ((false, ()), (((S : Int), (), (), c, A, false, ()), f, p, ())) := by
    obtain ⟨n, rfl⟩ : ∃ k, n = k + 1 := ⟨n - 1, by omega⟩
    rfl
  simp only [jour_Store_all, hK, sorted_at hm]
  have e3 : jour_Store_all_l3 n n (((), (), (), (), ((sortS (keysM m')).length : Int), 0, ()), (((), (), h, e, q, ()), m', ((S : Int), (), (), c, A, false, ()), m, f, p, [], sortS (keysM m'), ())) = some (.inl (((), (), (), ()), (((), (), h, e, q, ()), m', ((S : Int), (), (), c, A, false, ()), m, f, p, dump m', ()))) := by
    rw [hsl]
    exact hl3
  rw [e3]
  simp only []
  rw [hB]
  simp only []
  rw [hc11]
  simp only []
  rw [bounds_at (by omega) hS hnh]
  simp only []
  rw [hD]
  simp only []
  rw [if_neg (by decide), sectors_at (by omega) b (by omega)]
  simp only []
  have hdif : IntKind.i64.wrap ((((nextH h + 1) * (S / 2) : Nat) : Int) - ((nextH h * (S / 2) : Nat) : Int)) = ((S / 2 : Nat) : Int) := by
    rcases hnm with e0 | e0 <;> rw [e0, w64_id (by omega) (by omega)] <;> omega
  rw [hdif]
  by_cases hr : secs b.length ≤ S / 2
  · rw [if_pos hr, if_neg (by simp; omega), hW hr]
    simp only []
    by_cases he : errNil er = true
    · rw [if_neg (by rw [he]; decide), if_pos he, sectors2_at (by omega) b (by omega)]
      simp only []
      rw [show IntKind.i64.wrap (((nextH h * (S / 2) : Nat) : Int) + (secs b.length : Int)) = ((nextH h * (S / 2) + secs b.length : Nat) : Int) by
        rcases hnm with e0 | e0 <;> rw [e0, w64_id (by omega) (by omega)] <;> omega]
    · rw [if_pos (by simpa using he), if_neg he]
  · rw [if_neg hr, if_pos (decide_eq_true (show (secs b.length : Int) > ((S / 2 : Nat) : Int) by omega))]
/-- Where a store stands: nowhere yet, or in a half, up to an end. -/
def At (S : Nat) (h e : Int) : Prop := h = -1 ∨ ∃ k e' : Nat, k ≤ 1 ∧ h = (k : Int) ∧ e = (e' : Int) ∧ e' ≤ (k + 1) * (S / 2)
/-- Where a call goes: its place, its bytes, the half, and the end behind it. -/
def planA (S : Nat) (h : Int) (m : MM) : Option (Nat × List Int × Int × Int) :=
  if secs (by_ 0 (dump m)).length ≤ S / 2 then some (nextH h * (S / 2), by_ 0 (dump m), (nextH h : Int), ((nextH h * (S / 2) + secs (by_ 0 (dump m)).length : Nat) : Int)) else none
def plan (S : Nat) (h e : Int) (m : MM) (l : List ChT) : Option (Nat × List Int × Int × Int) :=
  if 0 ≤ h ∧ e + (secs (by_ 1 l).length : Int) ≤ (h + 1) * ((S / 2 : Nat) : Int) then some (e.toNat, by_ 1 l, h, e + (secs (by_ 1 l).length : Int)) else planA S h (appl m l)
theorem by_size {l : List ChT} (hl : l.length ≤ 1000) (h : ∀ c ∈ l, c.1.size ≤ 40 ∧ c.2.1.size ≤ 32768) (kind : Int) : (by_ kind l).length < 1000000000 := by
  have := by_len (kind := kind) h
  have h2 : 32838 * l.length ≤ 32838 * 1000 := Nat.mul_le_mul_left _ hl
  omega
theorem plan_room {S : Nat} {h e : Int} {m : MM} {l : List ChT} (hA : At S h e) {r : Nat × List Int × Int × Int} (hp : plan S h e m l = some r) : r.1 + secs r.2.1.length ≤ S ∧ At S r.2.2.1 r.2.2.2 := by
  have hall : ∀ {x : Nat × List Int × Int × Int}, planA S h (appl m l) = some x → x.1 + secs x.2.1.length ≤ S ∧ At S x.2.2.1 x.2.2.2 := by
    intro x hx
    unfold planA at hx
    split at hx
    · cases hx
      have hnm : nextH h = 0 ∨ nextH h = 1 := by unfold nextH; split <;> omega
      refine ⟨?_, .inr ⟨nextH h, _, by omega, rfl, rfl, ?_⟩⟩
      · show nextH h * (S / 2) + secs (by_ 0 (dump (appl m l))).length ≤ S
        rcases hnm with e0 | e0 <;> rw [e0] <;> omega
      · rcases hnm with e0 | e0 <;> rw [e0] <;> omega
    · cases hx
  unfold plan at hp
  split at hp
  · rename_i hc
    cases hp
    rcases hA with rfl | ⟨k, e', hk, rfl, rfl, he'⟩
    · exact absurd hc.1 (by decide)
    · have hkm : k = 0 ∨ k = 1 := by omega
      have h2 := hc.2
      refine ⟨?_, .inr ⟨k, e' + secs (by_ 1 l).length, hk, rfl, by show (e' : Int) + _ = _; omega, ?_⟩⟩
      · show (e' : Int).toNat + secs (by_ 1 l).length ≤ S
        rcases hkm with rfl | rfl <;> omega
      · rcases hkm with rfl | rfl <;> omega
  · exact hall hp
theorem planA_room {S : Nat} {h : Int} {m : MM} {r : Nat × List Int × Int × Int} (hp : planA S h m = some r) : r.1 + secs r.2.1.length ≤ S ∧ At S r.2.2.1 r.2.2.2 := by
  unfold planA at hp
  split at hp
  · cases hp
    have hnm : nextH h = 0 ∨ nextH h = 1 := by unfold nextH; split <;> omega
    refine ⟨?_, .inr ⟨nextH h, _, by omega, rfl, rfl, ?_⟩⟩
    · show nextH h * (S / 2) + secs (by_ 0 (dump m)).length ≤ S
      rcases hnm with e0 | e0 <;> rw [e0] <;> omega
    · rcases hnm with e0 | e0 <;> rw [e0] <;> omega
  · cases hp
theorem commit_bad {n : Nat} (hn : 50000 < n) {S : Nat} {c A h e q : Int} {dn : Bool} {m : MM} {f p : M} {l : List ChT} (hl : l.length ≤ 1000) {code : Nat} (hb : bad m l = some code) :
    jour_Store_Commit n (((), l, ()), (((), (), h, e, q, ()), ((S : Int), (), (), c, A, dn, ()), m, f, p, ())) = some (.inl ((ErrV.sent code, ()), (((), (), h, e, q, ()), ((S : Int), (), (), c, A, dn, ()), m, f, p, ()))) := by
  obtain ⟨n, rfl⟩ : ∃ k, n = k + 1 := ⟨n - 1, by omega⟩
  simp only [jour_Store_Commit, fits_at (n := n) l (by omega) (by omega), hb]
  rw [if_pos (by simp [errNil])]
theorem commit_same {n : Nat} (hn : 50000 < n) {S : Nat} {c A h e q : Int} {dn : Bool} {m : MM} (hm : MI m) {f p : M} {l : List ChT} (hl : l.length ≤ 1000) (hb : bad m l = none) (he : equalM (appl m l) m = true) :
    jour_Store_Commit n (((), l, ()), (((), (), h, e, q, ()), ((S : Int), (), (), c, A, dn, ()), m, f, p, ())) = some (.inl ((ErrV.nil, ()), (((), (), h, e, q, ()), ((S : Int), (), (), c, A, dn, ()), m, f, p, ()))) := by
  obtain ⟨n, rfl⟩ : ∃ k, n = k + 1 := ⟨n - 1, by omega⟩
  simp only [jour_Store_Commit, fits_at (n := n) l (by omega) (by omega), hb]
  rw [if_neg (by decide), equal_at (hm.appl hb) hm, he]
  simp only []
  rw [if_pos trivial]
/-- A Commit that changes something: told by what the writing does. -/
theorem commit_via {n : Nat} (hn : 50000 < n) {S : Nat} (hS : S ≤ 16384) {c A : Int} {h e q : Int} (hA : At S h e) {m : MM} (hm : MI m) {f p : M} {l : List ChT} (hl : l.length ≤ 1000) (hb : bad m l = none) (he : equalM (appl m l) m = false) {er : ErrV} {q2 c2 A2 : Int} {dn2 : Bool} {f2 p2 : M}
    (hW : ∀ r n', plan S h e m l = some r → 40000 < n' → jour_Store_write n' (((), (r.1 : Int), r.2.1, ()), (((), (), h, e, q, ()), ((S : Int), (), (), c, A, false, ()), m, f, p, ())) = some ((er, ()), (((), (), h, e, q2, ()), ((S : Int), (), (), c2, A2, dn2, ()), m, f2, p2, ()))) :
    jour_Store_Commit n (((), l, ()), (((), (), h, e, q, ()), ((S : Int), (), (), c, A, false, ()), m, f, p, ())) =
      match plan S h e m l with
      | some r => if errNil er then some (.inr (((ErrV.nil, ()), (((), (), r.2.2.1, r.2.2.2, q2, ()), ((S : Int), (), (), c2, A2, dn2, ()), m, f2, p2, appl m l, ()))))
        else some (.inl ((er, ()), (((), (), h, e, q2, ()), ((S : Int), (), (), c2, A2, dn2, ()), m, f2, p2, ())))
      | none => some (.inl ((ErrV.sent 118, ()), (((), (), h, e, q, ()), ((S : Int), (), (), c, A, false, ()), m, f, p, ()))) := by
  obtain ⟨n, rfl⟩ : ∃ k, n = k + 2 := ⟨n - 2, by omega⟩
  have hok := (bad_none hb).1
  have hok2 : ∀ c ∈ l, c.1.size ≤ 40 ∧ c.2.1.size ≤ 32768 := fun c hc => (hok c hc).2
  have hbl := by_size hl hok2 1
  have hB := bytes_at (n := n + 1) (l := l) (by omega) hl hok2 (kind := 1) ⟨by decide, by decide⟩
  have hall : ¬ (0 ≤ h ∧ e + (secs (by_ 1 l).length : Int) ≤ (h + 1) * ((S / 2 : Nat) : Int)) → _ := fun hno => all_via (n := n) (by omega) hS (c := c) (A := A) (h := h) (e := e) (q := q) (m := m) (hm.appl hb) (f := f) (p := p) (er := er) (q2 := q2) (c2 := c2) (A2 := A2) (dn2 := dn2) (f2 := f2) (p2 := p2) (fun hr => hW (nextH h * (S / 2), by_ 0 (dump (appl m l)), (nextH h : Int), ((nextH h * (S / 2) + secs (by_ 0 (dump (appl m l))).length : Nat) : Int)) n (by unfold plan planA; rw [if_neg hno, if_pos hr]) (by omega))
  simp only [jour_Store_Commit, fits_at (n := n + 1) l (by omega) (by omega), hb]
  rw [if_neg (by decide), equal_at (hm.appl hb) hm, he]
  simp only []
  rw [if_neg (by decide), hB]
  simp only []
  rcases hA with rfl | ⟨k, e', hk, rfl, rfl, he'⟩
  · have hno : ¬ (0 ≤ (-1 : Int) ∧ e + (secs (by_ 1 l).length : Int) ≤ (-1 + 1) * ((S / 2 : Nat) : Int)) := fun h => absurd h.1 (by decide)
    rw [if_neg (by decide), hall hno]
    unfold plan planA
    rw [if_neg hno]
    by_cases hr : secs (by_ 0 (dump (appl m l))).length ≤ S / 2
    · rw [if_pos hr, if_pos hr]
      by_cases hn : errNil er = true
      · rw [if_pos hn]
        simp only []
        rw [if_pos hn]
      · rw [if_neg hn]
        simp only []
        rw [if_neg hn]
    · rw [if_neg hr, if_neg hr]
  · rw [if_pos (decide_eq_true (show (k : Int) ≥ 0 by omega)), bounds_at (by omega) hS hk]
    simp only []
    rw [sectors_at (by omega) (by_ 1 l) (by omega)]
    simp only []
    have hkm : k = 0 ∨ k = 1 := by omega
    have hsz : S / 2 ≤ 8192 := by omega
    have hw : IntKind.i64.wrap ((((k + 1) * (S / 2) : Nat) : Int) - (e' : Int)) = (((k + 1) * (S / 2) : Nat) : Int) - (e' : Int) := by
      rcases hkm with rfl | rfl <;> exact w64_id (by omega) (by omega)
    have hcond : ((secs (by_ 1 l).length : Int) ≤ (((k + 1) * (S / 2) : Nat) : Int) - (e' : Int)) ↔ (0 ≤ (k : Int) ∧ (e' : Int) + (secs (by_ 1 l).length : Int) ≤ ((k : Int) + 1) * ((S / 2 : Nat) : Int)) := by
      rcases hkm with rfl | rfl <;> constructor <;> intro hh <;> omega
    rw [hw]
    by_cases hr : (secs (by_ 1 l).length : Int) ≤ (((k + 1) * (S / 2) : Nat) : Int) - (e' : Int)
    · have hroom : e' + secs (by_ 1 l).length ≤ S := by rcases hkm with rfl | rfl <;> omega
      have hpl : plan S (k : Int) (e' : Int) m l = some ((e' : Int).toNat, by_ 1 l, (k : Int), (e' : Int) + (secs (by_ 1 l).length : Int)) := by
        unfold plan
        rw [if_pos (hcond.1 hr)]
      have hW2 := hW _ (n + 1) hpl (by omega)
      rw [if_pos (decide_eq_true hr), show jour_Store_write (n + 1) (((), (e' : Int), by_ 1 l, ()), (((), (), (k : Int), (e' : Int), q, ()), ((S : Int), (), (), c, A, false, ()), m, f, p, ())) = _ from hW2, hpl]
      simp only []
      by_cases hn : errNil er = true
      · rw [if_neg (by rw [hn]; decide), if_pos hn, sectors2_at (by omega) (by_ 1 l) (by omega)]
        simp only []
        rw [w64_id (by omega) (by omega)]
      · rw [if_pos (by simpa using hn), if_neg hn]
    · have hno := fun hh => hr (hcond.2 hh)
      rw [if_neg (by simpa using hr), hall hno]
      unfold plan planA
      rw [if_neg hno]
      by_cases hr : secs (by_ 0 (dump (appl m l))).length ≤ S / 2
      · rw [if_pos hr, if_pos hr]
        by_cases hn : errNil er = true
        · rw [if_pos hn]
          simp only []
          rw [if_pos hn]
        · rw [if_neg hn]
          simp only []
          rw [if_neg hn]
      · rw [if_neg hr, if_neg hr]
end Go.Proofs.YthbbokndogjopaaGreatDoor.Pure

namespace Go.Proofs.YthbbokndogjopaaGreatDoor.Pure
open Go Go.Lib Go.Proofs.YthbbokndogjopaaGreatDoor.Cm
set_option linter.unusedVariables false
set_option linter.unusedSimpArgs false
def unzig (z : Int) : Int := if z % 2 = 0 then z / 2 else -(z / 2) - 1
theorem unzig_zig (n : Int) : unzig (zig n) = n := by
  unfold unzig zig
  by_cases h : 0 ≤ n
  · rw [if_pos h, if_pos (by omega)]
    omega
  · rw [if_neg h, if_neg (by omega)]
    omega
theorem wb_andNot (c : Int) (h0 : 0 ≤ c) (h1 : c < 256) : bits .andNot .u8 c 128 = c % 128 := by
  rw [u8_andNot c 128 h0 h1 (by omega) (by omega), show (255 - (128 : Int).toNat) = 2 ^ 7 - 1 by decide, Nat.and_two_pow_sub_one_eq_mod]
  omega
theorem wb_pow (i : Nat) : (2 : Int) ^ (7 * (i : Int)).toNat = 128 ^ i := by
  rw [show (7 * (i : Int)).toNat = 7 * i by omega, Int.pow_mul]
  rfl
theorem wb_top (c : Int) (i : Nat) (hi : i ≤ 9) (hc0 : 0 ≤ c) (hc : c < 128) (h9 : i = 9 → c ≤ 1) : c * 128 ^ i + 128 ^ i ≤ 18446744073709551616 := by
  have : i = 0 ∨ i = 1 ∨ i = 2 ∨ i = 3 ∨ i = 4 ∨ i = 5 ∨ i = 6 ∨ i = 7 ∨ i = 8 ∨ i = 9 := by omega
  rcases this with rfl | rfl | rfl | rfl | rfl | rfl | rfl | rfl | rfl | rfl
  all_goals simp only [show (128 : Int) ^ 0 = 1 from rfl, show (128 : Int) ^ 1 = 128 from rfl, show (128 : Int) ^ 2 = 16384 from rfl, show (128 : Int) ^ 3 = 2097152 from rfl, show (128 : Int) ^ 4 = 268435456 from rfl, show (128 : Int) ^ 5 = 34359738368 from rfl, show (128 : Int) ^ 6 = 4398046511104 from rfl, show (128 : Int) ^ 7 = 562949953421312 from rfl, show (128 : Int) ^ 8 = 72057594037927936 from rfl, show (128 : Int) ^ 9 = 9223372036854775808 from rfl]
  all_goals omega
theorem wb_or (z c : Int) (i : Nat) (hi : i ≤ 9) (hz0 : 0 ≤ z) (hz : z < 128 ^ i) (hc0 : 0 ≤ c) (hc : c < 128) (h9 : i = 9 → c ≤ 1) :
    IntKind.u64.wrap (c * 128 ^ i) = c * 128 ^ i ∧ bits .or .u64 z (c * 128 ^ i) = z + c * 128 ^ i ∧ z + c * 128 ^ i < 18446744073709551616 := by
  have ht := wb_top c i hi hc0 hc h9
  have hp : (0 : Int) < 128 ^ i := Int.pow_pos (by omega)
  have hn : 0 ≤ c * 128 ^ i := Int.mul_nonneg hc0 (by omega)
  refine ⟨by rw [IntKind.wrap_u64]; omega, ?_, by omega⟩
  rw [u64_or z _ hz0 (by omega) hn (by omega), Nat.or_comm]
  have e1 : (c * 128 ^ i).toNat = 2 ^ (7 * i) * c.toNat := by
    rw [Int.toNat_mul hc0 (by omega), Nat.mul_comm, Nat.pow_mul]
    rw [show (128 : Int) ^ i = ((128 ^ i : Nat) : Int) by simp, Int.toNat_natCast]
  have e2 : z.toNat < 2 ^ (7 * i) := by
    rw [Nat.pow_mul]
    have : ((z.toNat : Nat) : Int) < ((2 ^ 7) ^ i : Nat) := by
      rw [Int.toNat_of_nonneg hz0]
      simpa using hz
    exact_mod_cast this
  rw [e1, ← Nat.two_pow_add_eq_or_of_lt e2, ← e1]
  omega
theorem wb_unzig (z : Int) (h0 : 0 ≤ z) (h1 : z < 18446744073709551616) : bits .xor .i64 (IntKind.i64.wrap (z / 2)) (IntKind.i64.wrap (-(IntKind.i64.wrap (bits .and .u64 z 1)))) = unzig z := by
  rw [Lib.u64_and1 z h0 h1]
  have e1 : IntKind.i64.wrap (z / 2) = z / 2 := by rw [IntKind.wrap_i64]; omega
  rw [e1]
  unfold unzig
  by_cases h : z % 2 = 0
  · rw [if_pos h, h]
    obtain ⟨x, hx⟩ := Int.eq_ofNat_of_zero_le (show 0 ≤ z / 2 by omega)
    rw [hx, show IntKind.i64.wrap (-IntKind.i64.wrap 0) = 0 by rw [IntKind.wrap_i64]; rfl]
    have hb : (BitVec.ofInt 64 (x : Int)).toNat = x := by
      rw [BitVec.toNat_ofInt]
      omega
    show IntKind.i64.wrap ((BitVec.ofInt 64 (x : Int) ^^^ BitVec.ofInt 64 0).toNat : Int) = _
    rw [show BitVec.ofInt 64 0 = 0#64 by decide, BitVec.xor_zero, hb, IntKind.wrap_i64]
    omega
  · rw [if_neg h, show z % 2 = 1 by omega]
    obtain ⟨x, hx⟩ := Int.eq_ofNat_of_zero_le (show 0 ≤ z / 2 by omega)
    rw [hx, show IntKind.i64.wrap (-IntKind.i64.wrap 1) = -1 by rw [IntKind.wrap_i64]; rfl]
    have hc : bits .xor .i64 (x : Int) (-1) = bits .xor .i64 (-1) (x : Int) := by
      show IntKind.i64.wrap ((BitVec.ofInt 64 (x : Int) ^^^ BitVec.ofInt 64 (-1)).toNat : Int) = IntKind.i64.wrap ((BitVec.ofInt 64 (-1) ^^^ BitVec.ofInt 64 (x : Int)).toNat : Int)
      rw [BitVec.xor_comm]
    rw [hc, Lib.i64_not x (by omega)]
theorem andNot8 {c : Int} (h0 : 0 ≤ c) (h1 : c < 256) : bitsOp .andNot .u8 c 128 = c % 128 := wb_andNot c h0 h1
theorem shl_at {c : Int} (i : Nat) (hi : i ≤ 9) (h0 : 0 ≤ c) (h1 : c < 128) : shlOp .u64 (IntKind.u64.wrap c) (IntKind.i64.wrap (7 * (i : Int))) = IntKind.u64.wrap (c * 128 ^ i) := by
  have e1 : IntKind.u64.wrap c = c := by rw [IntKind.wrap_u64]; omega
  have e2 : IntKind.i64.wrap (7 * (i : Int)) = 7 * i := w64_id (by omega) (by omega)
  rw [e1, e2]
  show IntKind.u64.wrap (c * 2 ^ min (7 * (i : Int)).toNat 64) = _
  rw [show min (7 * (i : Int)).toNat 64 = (7 * (i : Int)).toNat by omega, wb_pow]
theorem unzig_at {z : Int} (h0 : 0 ≤ z) (h1 : z < 18446744073709551616) : bitsOp .xor .i64 (IntKind.i64.wrap (shrOp .u64 z 1)) (IntKind.i64.wrap (0 - IntKind.i64.wrap (bitsOp .and .u64 z 1))) = unzig z := by
  have h := wb_unzig z h0 h1
  rw [Int.zero_sub, show shrOp .u64 z 1 = z / 2 by
    show z.fdiv (2 ^ 1) = _
    rw [Int.fdiv_eq_ediv_of_nonneg _ (by decide)]
    rfl]
  exact h
theorem drop_cons {b : List Int} {m : Nat} {c : Int} {tl : List Int} (h : b.drop m = c :: tl) (d : Int) : m < b.length ∧ b.getD m d = c ∧ b.drop (m + 1) = tl := by
  have hl : m < b.length := by
    have := congrArg List.length h
    simp only [List.length_drop, List.length_cons] at this
    omega
  rw [List.drop_eq_getElem_cons hl, List.cons.injEq] at h
  exact ⟨hl, by rw [List.getD_eq_getElem?_getD, List.getElem?_eq_getElem hl]; exact h.1, h.2⟩
theorem pow9 : (128 : Int) ^ 9 = 9223372036854775808 := by decide
theorem number_ok (n : Nat) (b : List Int) (hb : b.length < 1000000000) (at_ : Nat) (hat : at_ ≤ b.length) (e : ErrV) : ∀ (k i : Nat) (z acc : Int) (f : Nat) (rest : List Int), i + k + 1 = 10 → 0 ≤ z → 0 ≤ acc → acc < 128 ^ i → acc + z * 128 ^ i < 18446744073709551616 → (0 < i → 0 < z) → k < f → b.drop (at_ + i) = encF (k + 1) z ++ rest →
    wire_Reader_number_l4 n f (((), acc, (i : Int), ()), ((b, (at_ : Int), e, ()), ())) = some (.inl ((unzig (acc + z * 128 ^ i), ((i + (encF (k + 1) z).length : Nat) : Int), ErrV.nil, ()), ((b, (at_ : Int), e, ()), ()))) := by
  intro k
  induction k with
  | zero =>
    intro i z acc f rest hi hz ha hac hbd hp hf hd
    obtain ⟨f, rfl⟩ : ∃ m, f = m + 1 := ⟨f - 1, by omega⟩
    obtain rfl : i = 9 := by omega
    have hbd2 := hbd
    rw [pow9] at hbd2
    rw [encF, if_neg (by omega), List.singleton_append] at hd
    obtain ⟨d1, d2, d3⟩ := drop_cons hd (Ty.dflt (.int .u8))
    have hv : IntKind.i64.wrap ((at_ : Int) + ((9 : Nat) : Int)) = ((at_ + 9 : Nat) : Int) := by rw [w64_id (by omega) (by omega)]; omega
    obtain ⟨w1, w2, w3⟩ := wb_or acc z 9 (by omega) ha hac hz (by omega) (fun _ => by omega)
    simp only [wire_Reader_number_l4]
    rw [hv, rdT_nat, d2, if_neg (by simp; omega), if_pos ⟨by omega, by omega⟩]
    simp only [wire_Reader_number_c9]
    rw [if_pos (by simp), if_neg (by simp; omega)]
    simp only []
    rw [andNot8 hz (by omega), show z % 128 = z by omega, shl_at 9 (by omega) hz (by omega), if_neg (show ¬ (IntKind.i64.wrap (7 * ((9 : Nat) : Int)) < 0) by rw [w64_id (by omega) (by omega)]; omega), if_neg (by simp; omega), w1, show bitsOp .or .u64 acc (z * 128 ^ 9) = acc + z * 128 ^ 9 from w2]
    simp only [wire_Reader_number_c13]
    rw [if_neg (by simp; intro h0; have h0 : z = 0 := h0; have := hp (by omega); omega)]
    simp only []
    rw [unzig_at (by omega) w3, w64_up 9 (by omega), encF, if_neg (by omega)]
    rfl
  | succ k ih =>
    intro i z acc f rest hi hz ha hac hbd hp hf hd
    obtain ⟨f, rfl⟩ : ∃ m, f = m + 1 := ⟨f - 1, by omega⟩
    have hi9 : i ≤ 8 := by omega
    have hpp : (0 : Int) < 128 ^ i := Int.pow_pos (by decide)
    have hv : IntKind.i64.wrap ((at_ : Int) + (i : Int)) = ((at_ + i : Nat) : Int) := by rw [w64_id (by omega) (by omega)]; omega
    have hc9 : ∀ c : Int, wire_Reader_number_c9 n (((), acc, (i : Int), c, ()), ((b, (at_ : Int), e, ()), ())) = some (.inl (((), acc, (i : Int), c, ()), ((b, (at_ : Int), e, ()), ()))) := fun c => by
      simp only [wire_Reader_number_c9]
      rw [if_neg (by simp; intro h0; have h0 : (i : Int) = 9 := h0; omega)]
    rw [encF] at hd ⊢
    by_cases h : 128 ≤ z
    · rw [if_pos h, List.cons_append] at hd
      obtain ⟨d1, d2, d3⟩ := drop_cons hd (Ty.dflt (.int .u8))
      obtain ⟨w1, w2, w3⟩ := wb_or acc (z % 128) i (by omega) ha hac (by omega) (by omega) (fun _ => by omega)
      have eq : acc + z % 128 * 128 ^ i + z / 128 * 128 ^ (i + 1) = acc + z * 128 ^ i := by
        rw [pow_step, ← Int.mul_assoc, Int.add_assoc, ← Int.add_mul]
        congr 2
        omega
      have hlt : acc + z % 128 * 128 ^ i < 128 ^ (i + 1) := by
        have h1 : z % 128 * 128 ^ i ≤ 127 * 128 ^ i := Int.mul_le_mul_of_nonneg_right (by omega) (by omega)
        rw [pow_step]
        omega
      have hn0 : 0 ≤ z % 128 * 128 ^ i := Int.mul_nonneg (by omega) (by omega)
      have hrec := ih (i + 1) (z / 128) (acc + z % 128 * 128 ^ i) f rest (by omega) (by omega) (by omega) hlt (by rw [eq]; exact hbd) (fun _ => by omega) (by omega) (by rw [← Nat.add_assoc]; exact d3)
      simp only [wire_Reader_number_l4]
      rw [hv, rdT_nat, d2, if_neg (by simp; omega), if_pos ⟨by omega, by omega⟩, hc9]
      simp only []
      rw [andNot8 (by omega) (by omega), show (z % 128 + 128) % 128 = z % 128 by omega, shl_at i (by omega) (by omega) (by omega), if_neg (show ¬ (IntKind.i64.wrap (7 * (i : Int)) < 0) by rw [w64_id (by omega) (by omega)]; omega), if_pos (decide_eq_true (show z % 128 + 128 ≥ 128 by omega)), w1, show bitsOp .or .u64 acc (z % 128 * 128 ^ i) = acc + z % 128 * 128 ^ i from w2, w64_up i (by omega), hrec, eq, if_pos h, List.length_cons, show i + 1 + (encF (k + 1) (z / 128)).length = i + ((encF (k + 1) (z / 128)).length + 1) by omega]
    · rw [if_neg h, List.singleton_append] at hd
      obtain ⟨d1, d2, d3⟩ := drop_cons hd (Ty.dflt (.int .u8))
      obtain ⟨w1, w2, w3⟩ := wb_or acc z i (by omega) ha hac hz (by omega) (fun _ => by omega)
      have hc13 : ∀ v : Int, wire_Reader_number_c13 n ((v, (i : Int), z, ()), ((b, (at_ : Int), e, ()), ())) = some (.inl ((v, (i : Int), ()), ((b, (at_ : Int), e, ()), ()))) := fun v => by
        simp only [wire_Reader_number_c13]
        by_cases hz0 : z = 0
        · rw [if_pos (by simp [hz0]), if_neg (by have := mt hp; simp; omega)]
        · rw [if_neg (by simpa using hz0)]
      simp only [wire_Reader_number_l4]
      rw [hv, rdT_nat, d2, if_neg (by simp; omega), if_pos ⟨by omega, by omega⟩, hc9]
      simp only []
      rw [andNot8 hz (by omega), show z % 128 = z by omega, shl_at i (by omega) hz (by omega), if_neg (show ¬ (IntKind.i64.wrap (7 * (i : Int)) < 0) by rw [w64_id (by omega) (by omega)]; omega), if_neg (by simp; omega), w1, show bitsOp .or .u64 acc (z * 128 ^ i) = acc + z * 128 ^ i from w2, hc13]
      simp only []
      rw [unzig_at (by have := Int.mul_nonneg hz (Int.le_of_lt hpp); omega) w3, w64_up i (by omega), if_neg h]
      rfl
theorem number_cut (n : Nat) (b : List Int) (hb : b.length < 1000000000) (at_ : Nat) (hat : at_ ≤ b.length) (e : ErrV) : ∀ (k i : Nat) (z acc : Int) (f j : Nat), i + k + 1 = 10 → 0 ≤ z → z * 128 ^ i < 18446744073709551616 → k < f → j < (encF (k + 1) z).length → at_ + i ≤ b.length → b.drop (at_ + i) = (encF (k + 1) z).take j →
    wire_Reader_number_l4 n f (((), acc, (i : Int), ()), ((b, (at_ : Int), e, ()), ())) = some (.inl ((0, 0, ErrV.sent 101, ()), ((b, (at_ : Int), e, ()), ()))) := by
  have stop : ∀ (i : Nat) (acc : Int) (f : Nat), i < 100 → at_ + i ≤ b.length → b.drop (at_ + i) = [] → wire_Reader_number_l4 n (f + 1) (((), acc, (i : Int), ()), ((b, (at_ : Int), e, ()), ())) = some (.inl ((0, 0, ErrV.sent 101, ()), ((b, (at_ : Int), e, ()), ()))) := by
    intro i acc f hi hl hd
    have := congrArg List.length hd
    simp only [List.length_drop, List.length_nil] at this
    simp only [wire_Reader_number_l4]
    rw [if_pos (by rw [w64_id (by omega) (by omega)]; simp; omega)]
  intro k
  induction k with
  | zero =>
    intro i z acc f j hi hz hbd hf hj hl hd
    obtain ⟨f, rfl⟩ : ∃ m, f = m + 1 := ⟨f - 1, by omega⟩
    obtain rfl : i = 9 := by omega
    rw [pow9] at hbd
    rw [encF, if_neg (by omega)] at hj hd
    simp at hj
    subst hj
    exact stop 9 acc f (by omega) hl hd
  | succ k ih =>
    intro i z acc f j hi hz hbd hf hj hl hd
    obtain ⟨f, rfl⟩ : ∃ m, f = m + 1 := ⟨f - 1, by omega⟩
    cases j with
    | zero => exact stop i acc f (by omega) hl hd
    | succ j =>
      rw [encF] at hj hd
      by_cases h : 128 ≤ z
      · rw [if_pos h] at hj hd
        rw [List.take_succ_cons] at hd
        obtain ⟨d1, d2, d3⟩ := drop_cons hd (Ty.dflt (.int .u8))
        have hv : IntKind.i64.wrap ((at_ : Int) + (i : Int)) = ((at_ + i : Nat) : Int) := by rw [w64_id (by omega) (by omega)]; omega
        have hlt : z / 128 * 128 ^ (i + 1) < 18446744073709551616 := by
          rw [pow_step, ← Int.mul_assoc]
          exact Int.lt_of_le_of_lt (Int.mul_le_mul_of_nonneg_right (by omega) (Int.le_of_lt (Int.pow_pos (by decide)))) hbd
        have hrec := fun acc' => ih (i + 1) (z / 128) acc' f j (by omega) (by omega) hlt (by omega) (by simpa using hj) (by omega) (by rw [← Nat.add_assoc]; exact d3)
        simp only [wire_Reader_number_l4]
        rw [hv, rdT_nat, d2, if_neg (by simp; omega), if_pos ⟨by omega, by omega⟩]
        simp only [wire_Reader_number_c9]
        rw [if_neg (by simp; intro h0; have h0 : (i : Int) = 9 := h0; omega)]
        simp only []
        rw [if_neg (show ¬ (IntKind.i64.wrap (7 * (i : Int)) < 0) by rw [w64_id (by omega) (by omega)]; omega), if_pos (decide_eq_true (show z % 128 + 128 ≥ 128 by omega)), w64_up i (by omega), hrec]
      · rw [if_neg h] at hj
        simp at hj
end Go.Proofs.YthbbokndogjopaaGreatDoor.Pure

namespace Go.Proofs.YthbbokndogjopaaGreatDoor.Pure
open Go Go.Lib Go.Proofs.YthbbokndogjopaaGreatDoor.Cm
set_option linter.unusedVariables false
set_option linter.unusedSimpArgs false
/-- What stands before a reader: all of it (and where it ends), or it is cut off. -/
def Ahead (t : Option Nat) (b : List Int) (a : Nat) (E : List Int) : Prop :=
  match t with
  | some m => a + E.length = m ∧ ∃ r, b.drop a = E ++ r
  | none => ∃ j, j < E.length ∧ b.drop a = E.take j
def G (t : Option Nat) (b : List Int) (a : Nat) (e : ErrV) (E : List Int) : Prop :=
  a ≤ b.length ∧ ((t = none ∧ errNil e = false) ∨ (e = .nil ∧ Ahead t b a E))
theorem G.bad {t : Option Nat} {b : List Int} {a a' : Nat} {e e' : ErrV} {E E' : List Int} (g : G t b a e E) (he : errNil e = false) (ha : a' ≤ b.length) (he' : errNil e' = false) : G t b a' e' E' := by
  rcases g.2 with ⟨ht, -⟩ | ⟨h, -⟩
  · exact ⟨ha, .inl ⟨ht, he'⟩⟩
  · rw [h] at he; cases he
theorem errNil_cases (e : ErrV) : e = .nil ∨ (errNil e = false ∧ e ≠ .nil) := by
  cases e with
  | nil => exact .inl rfl
  | sent c => exact .inr ⟨rfl, by intro h; cases h⟩
  | at_ p e => exact .inr ⟨rfl, by intro h; cases h⟩
theorem G.ahead {t : Option Nat} {b : List Int} {a : Nat} {E : List Int} (g : G t b a .nil E) : Ahead t b a E := by
  rcases g.2 with ⟨-, h⟩ | ⟨-, h⟩
  · cases h
  · exact h
theorem G.step {t : Option Nat} {b : List Int} {a : Nat} {A B : List Int} (g : G t b a .nil (A ++ B)) : (∃ r, b.drop a = A ++ r ∧ a + A.length ≤ b.length ∧ G t b (a + A.length) .nil B) ∨ (t = none ∧ ∃ j, j < A.length ∧ b.drop a = A.take j) := by
  have h := g.ahead
  have hd : b.drop (a + A.length) = (b.drop a).drop A.length := by rw [List.drop_drop]
  cases t with
  | some m =>
    obtain ⟨h1, r, h2⟩ := h
    have hl := congrArg List.length h2
    simp only [List.length_drop, List.length_append] at hl h1
    have h0 := g.1
    refine .inl ⟨B ++ r, by rw [h2, List.append_assoc], by omega, by omega, .inr ⟨rfl, by omega, r, ?_⟩⟩
    rw [hd, h2, List.append_assoc, List.drop_left]
  | none =>
    obtain ⟨j, h1, h2⟩ := h
    by_cases hj : j < A.length
    · exact .inr ⟨rfl, j, hj, by rw [h2, List.take_append_of_le_length (by omega)]⟩
    · have e : (A ++ B).take j = A ++ B.take (j - A.length) := by
        rw [List.take_append, List.take_of_length_le (by omega)]
      rw [e] at h2
      have hl := congrArg List.length h2
      simp only [List.length_drop, List.length_append] at hl h1
      have h0 := g.1
      have hal : a + A.length ≤ b.length := by omega
      refine .inl ⟨_, h2, hal, hal, .inr ⟨rfl, j - A.length, by omega, ?_⟩⟩
      rw [hd, h2, List.drop_left]
theorem rnumber_at {n : Nat} (hn : 20 ≤ n) {b : List Int} (hb : b.length < 1000000000) {a : Nat} (ha : a ≤ b.length) (e : ErrV) {v : Int} (hI : I64 v) {r : List Int} (h : b.drop a = enc v ++ r) :
    wire_Reader_number n (((), ()), ((b, (a : Int), e, ()), ())) = some ((((v, ()), (((enc v).length : Int), ()), (ErrV.nil, ()), ()), ()), ((b, (a : Int), e, ()), ())) := by
  obtain ⟨n, rfl⟩ : ∃ m, n = m + 1 := ⟨n - 1, by omega⟩
  have hz := zig_range hI.1 hI.2
  have := number_ok n b hb a ha e 9 0 (zig v) 0 n r rfl hz.1 (by omega) (by decide) (by simpa using hz.2) (fun h => absurd h (by omega)) (by omega) (by rw [Nat.add_zero]; exact h)
  simp only [Int.pow_zero, Int.mul_one, Int.zero_add, unzig_zig, Nat.zero_add] at this
  simp only [wire_Reader_number]
  have e0 : wire_Reader_number_l4 n n (((), 0, 0, ()), ((b, (a : Int), e, ()), ())) = some (.inl ((v, ((enc v).length : Int), ErrV.nil, ()), ((b, (a : Int), e, ()), ()))) := this
  rw [e0]
theorem number_no {n : Nat} (hn : 20 ≤ n) {b : List Int} (hb : b.length < 1000000000) {a : Nat} (ha : a ≤ b.length) (e : ErrV) {v : Int} (hI : I64 v) {j : Nat} (hj : j < (enc v).length) (h : b.drop a = (enc v).take j) :
    wire_Reader_number n (((), ()), ((b, (a : Int), e, ()), ())) = some ((((0, ()), (0, ()), (ErrV.sent 101, ()), ()), ()), ((b, (a : Int), e, ()), ())) := by
  obtain ⟨n, rfl⟩ : ∃ m, n = m + 1 := ⟨n - 1, by omega⟩
  have hz := zig_range hI.1 hI.2
  have := number_cut n b hb a ha e 9 0 (zig v) 0 n j rfl hz.1 (by simpa using hz.2) (by omega) hj (by omega) (by rw [Nat.add_zero]; exact h)
  simp only [wire_Reader_number]
  have e0 : wire_Reader_number_l4 n n (((), 0, 0, ()), ((b, (a : Int), e, ()), ())) = some (.inl ((0, 0, ErrV.sent 101, ()), ((b, (a : Int), e, ()), ()))) := this
  rw [e0]
theorem Num_bad {n : Nat} (hn : 20 ≤ n) (lo hi : Int) (b : List Int) (a : Int) {e : ErrV} (he : errNil e = false) : wire_Reader_Num n (((), lo, hi, ()), ((b, a, e, ()), ())) = some ((0, ()), ((b, a, e, ()), ())) := by
  obtain ⟨n, rfl⟩ : ∃ m, n = m + 1 := ⟨n - 1, by omega⟩
  simp only [wire_Reader_Num, he]
  rfl
/-- A number. -/
theorem Num_at {n : Nat} (hn : 30 ≤ n) {t : Option Nat} {b : List Int} (hb : b.length < 1000000000) {a : Nat} {e : ErrV} {B : List Int} {lo hi v : Int} (hI : I64 v) (h0 : lo ≤ v) (h1 : v ≤ hi) (g : G t b a e (enc v ++ B)) :
    ∃ v' a' e', wire_Reader_Num n (((), lo, hi, ()), ((b, (a : Int), e, ()), ())) = some ((v', ()), ((b, ((a' : Nat) : Int), e', ()), ())) ∧ G t b a' e' B ∧ (e' = .nil → e = .nil ∧ v' = v) := by
  rcases errNil_cases e with rfl | ⟨he, hne⟩
  · obtain ⟨n, rfl⟩ : ∃ m, n = m + 1 := ⟨n - 1, by omega⟩
    have hel := (enc_len v).2
    rcases g.step with ⟨r, h, hl, g2⟩ | ⟨ht, j, hj, h⟩
    · refine ⟨v, a + (enc v).length, .nil, ?_, g2, fun _ => ⟨rfl, rfl⟩⟩
      simp only [wire_Reader_Num, rnumber_at (n := n) (by omega) hb g.1 .nil hI h]
      rw [if_neg (by decide)]
      simp only [wire_Reader_Num_c6]
      rw [if_pos (by decide), if_neg (by simp; exact h0), if_neg (by simp; exact h1)]
      simp only []
      rw [if_neg (by decide), w64_id (by omega) (by omega)]
      rfl
    · refine ⟨0, a, .at_ a (.sent 101), ?_, ⟨g.1, .inl ⟨ht, rfl⟩⟩, fun h => by cases h⟩
      simp only [wire_Reader_Num, number_no (n := n) (by omega) hb g.1 .nil hI hj h]
      rw [if_neg (by decide)]
      simp only [wire_Reader_Num_c6]
      rw [if_neg (by decide)]
      simp only []
      rw [if_pos (by decide)]
      obtain ⟨n, rfl⟩ : ∃ m, n = m + 1 := ⟨n - 1, by omega⟩
      rfl
  · exact ⟨0, a, e, Num_bad (by omega) lo hi b a he, g.bad he g.1 he, fun h => absurd h hne⟩
theorem str_bytes (s : ByteArray) : strOfNums (bytesL s) = s := by
  unfold strOfNums bytesL
  rw [List.map_map]
  have : ((fun n : Int => UInt8.ofNat n.toNat) ∘ fun b : UInt8 => (b.toNat : Int)) = id := by
    funext x
    simp
  rw [this, List.map_id]
/-- A text. -/
theorem Text_at {n : Nat} (hn : 40 ≤ n) {t : Option Nat} {b : List Int} (hb : b.length < 1000000000) {a : Nat} {e : ErrV} {B : List Int} {most : Int} {s : ByteArray} (h1 : (s.size : Int) ≤ most) (hs : s.size ≤ 1000000) (g : G t b a e (txt s ++ B)) :
    ∃ v' a' e', wire_Reader_Text n (((), most, ()), ((b, (a : Int), e, ()), ())) = some ((v', ()), ((b, ((a' : Nat) : Int), e', ()), ())) ∧ G t b a' e' B ∧ (e' = .nil → e = .nil ∧ v' = s) := by
  obtain ⟨n, rfl⟩ : ∃ m, n = m + 1 := ⟨n - 1, by omega⟩
  have g1 := g
  rw [txt, List.append_assoc] at g1
  obtain ⟨v, a1, e1, hN, g2, hv⟩ := Num_at (n := n) (by omega) hb (lo := 0) (hi := most) ⟨by omega, by omega⟩ (by omega) h1 g1
  simp only [wire_Reader_Text, hN]
  rcases errNil_cases e1 with rfl | ⟨he, hne⟩
  · obtain ⟨he0, rfl⟩ := hv rfl
    have hL : wire_Reader_Left n (((), ()), ((b, (a1 : Int), ErrV.nil, ()), ())) = some ((((b.length : Int) - (a1 : Int)), ()), ((b, (a1 : Int), ErrV.nil, ()), ())) := by
      obtain ⟨n, rfl⟩ : ∃ m, n = m + 1 := ⟨n - 1, by omega⟩
      simp only [wire_Reader_Left]
      have := g2.1
      rw [w64_id (by omega) (by omega)]
    rw [if_neg (by decide), hL]
    simp only []
    have hbl := bytesL_len s
    rcases g2.step with ⟨r, h, hl, g3⟩ | ⟨ht, j, hj, h⟩
    · refine ⟨s, a1 + (bytesL s).length, .nil, ?_, g3, fun _ => ⟨he0, rfl⟩⟩
      rw [if_neg (by simp; omega)]
      have e1 : IntKind.i64.wrap ((a1 : Int) + (s.size : Int)) = ((a1 + s.size : Nat) : Int) := by rw [w64_id (by omega) (by omega)]; omega
      have e2 : IntKind.i64.wrap (((a1 + s.size : Nat) : Int) - (s.size : Int)) = (a1 : Int) := by rw [w64_id (by omega) (by omega)]; omega
      have e3 : cutL b (a1 : Int) ((a1 + s.size : Nat) : Int) = bytesL s := by
        simp only [cutL, Int.toNat_natCast]
        rw [List.drop_take, h, show a1 + s.size - a1 = (bytesL s).length by omega, List.take_left]
      rw [e1, e2, if_pos ⟨by omega, by omega, by omega⟩, e3, str_bytes, hbl]
    · have hlen := congrArg List.length h
      simp only [List.length_drop, List.length_take] at hlen
      have := g2.1
      refine ⟨⟨#[]⟩, a, .at_ a (.sent 101), ?_, ⟨g.1, .inl ⟨ht, rfl⟩⟩, fun h => by cases h⟩
      rw [if_pos (decide_eq_true (show (s.size : Int) > (b.length : Int) - (a1 : Int) by omega))]
      obtain ⟨n, rfl⟩ : ∃ m, n = m + 1 := ⟨n - 1, by omega⟩
      rfl
  · refine ⟨⟨#[]⟩, a1, e1, ?_, g2.bad he g2.1 he, fun h => absurd h hne⟩
    rw [he, if_pos (by decide)]
theorem Err_at {n : Nat} (hn : 1 ≤ n) (b : List Int) (a : Int) (e : ErrV) : wire_Reader_Err n (((), ()), ((b, a, e, ()), ())) = some ((e, ()), ((b, a, e, ()), ())) := by
  obtain ⟨n, rfl⟩ : ∃ m, n = m + 1 := ⟨n - 1, by omega⟩
  simp only [wire_Reader_Err]
end Go.Proofs.YthbbokndogjopaaGreatDoor.Pure

namespace Go.Proofs.YthbbokndogjopaaGreatDoor.Pure
open Go Go.Lib Go.Proofs.YthbbokndogjopaaGreatDoor.Cm
set_option linter.unusedVariables false
set_option linter.unusedSimpArgs false
set_option maxRecDepth 100000
/-- A change as it is read: what goes has no value. -/
def norm (c : ChT) : ChT := (c.1, (if c.2.2 then (⟨#[]⟩ : ByteArray) else c.2.1, c.2.2))
theorem appl_norm (l : List ChT) : ∀ m : MM, appl m (l.map norm) = appl m l := by
  induction l with
  | nil => exact fun m => rfl
  | cons c l ih =>
    intro m
    show appl (apC m (norm c)) (l.map norm) = appl (apC m c) l
    rw [ih]
    congr 1
    obtain ⟨c1, c2, c3⟩ := c
    cases c3 <;> rfl
theorem Bool_at {n : Nat} (hn : 50 ≤ n) {t : Option Nat} {b : List Int} (hb : b.length < 1000000000) {a : Nat} {e : ErrV} {B : List Int} {v : Bool} (g : G t b a e (enc (if v then 1 else 0) ++ B)) :
    ∃ v' a' e', wire_Reader_Bool n (((), ()), ((b, (a : Int), e, ()), ())) = some ((v', ()), ((b, ((a' : Nat) : Int), e', ()), ())) ∧ G t b a' e' B ∧ (e' = .nil → e = .nil ∧ v' = v) := by
  obtain ⟨n, rfl⟩ : ∃ m, n = m + 1 := ⟨n - 1, by omega⟩
  obtain ⟨x, a', e', h, g2, hv⟩ := Num_at (n := n) (by omega) hb (lo := 0) (hi := 1) (by cases v <;> exact ⟨by decide, by decide⟩) (by cases v <;> decide) (by cases v <;> decide) g
  refine ⟨x == 1, a', e', ?_, g2, fun he => ?_⟩
  · simp only [wire_Reader_Bool, h]
  · obtain ⟨h1, h2⟩ := hv he
    refine ⟨h1, ?_⟩
    rw [h2]
    cases v <;> rfl
theorem parse_stop {n k : Nat} (hn : 1 ≤ n) (hk : 0 < k) (kind x : Int) (orig b : List Int) (a : Int) {e : ErrV} (he : errNil e = false) (out : List ChT) :
    jour_parse_l5 n k (((), kind, (), x, ()), (orig, (b, a, e, ()), out, ())) = some (.inl (((), kind, (), ()), (orig, (b, a, e, ()), out, ()))) := by
  obtain ⟨k, rfl⟩ : ∃ m, k = m + 1 := ⟨k - 1, by omega⟩
  simp only [jour_parse_l5, Err_at hn, he]
  split <;> rfl
theorem parse_run {n : Nat} (hn : 60 ≤ n) {t : Option Nat} {b : List Int} (hb : b.length < 1000000000) (kind : Int) (orig : List Int) {B : List Int} : ∀ (l out : List ChT) (a k : Nat), l.length + 1 < k → out.length + l.length < 100000 → (∀ c ∈ l, c.1.size ≤ 40 ∧ c.2.1.size ≤ 32768) → G t b a .nil (l.flatMap chE ++ B) →
    ∃ (out' : List ChT) (a' : Nat) (e' : ErrV), jour_parse_l5 n k (((), kind, (), (l.length : Int), ()), (orig, (b, (a : Int), .nil, ()), out, ())) = some (.inl (((), kind, (), ()), (orig, (b, (a' : Int), e', ()), out', ()))) ∧ G t b a' e' B ∧ (e' = .nil → out' = out ++ l.map norm)
  | [], out, a, k, hk, ho, hl, g => by
    obtain ⟨k, rfl⟩ : ∃ m, k = m + 1 := ⟨k - 1, by omega⟩
    refine ⟨out, a, .nil, ?_, by simpa using g, fun _ => by simp⟩
    simp only [jour_parse_l5]
    rw [if_neg (by simp)]
  | c :: l, out, a, k, hk, ho, hl, g => by
    simp only [List.length_cons] at hk ho
    obtain ⟨k, rfl⟩ : ∃ m, k = m + 1 := ⟨k - 1, by omega⟩
    have hc := hl c List.mem_cons_self
    obtain ⟨c1, c2, c3⟩ := c
    simp only at hc
    have g : G t b a .nil (txt c1 ++ (enc (if c3 then 1 else 0) ++ ((if c3 then [] else txt c2) ++ (l.flatMap chE ++ B)))) := by
      simp only [List.flatMap_cons, chE, List.append_assoc] at g
      exact g
    obtain ⟨v1, a1, e1, h1, g1, w1⟩ := Text_at (n := n) (by omega) hb (most := 40) (by omega) (by omega) g
    obtain ⟨v2, a2, e2, h2, g2, w2⟩ := Bool_at (n := n) (by omega) hb g1
    have hw : IntKind.i64.wrap ((((((c1, (c2, c3)) : ChT) :: l).length : Nat) : Int) - 1) = (l.length : Int) := by rw [List.length_cons, w64_id (by omega) (by omega)]; omega
    simp only [jour_parse_l5, Err_at (show 1 ≤ n by omega), h1, h2]
    rw [if_pos (by simp <;> omega), if_pos (by decide)]
    rcases errNil_cases e2 with rfl | ⟨he, hne⟩
    · obtain ⟨q1, rfl⟩ := w2 rfl
      obtain ⟨-, rfl⟩ := w1 q1
      cases v2 with
      | true =>
        have g2 : G t b a2 .nil (l.flatMap chE ++ B) := by simpa using g2
        obtain ⟨out', a', e', h, g3, hv⟩ := parse_run hn hb kind orig l (out ++ [(v1, ((⟨#[]⟩ : ByteArray), true))]) a2 k (by omega) (by simp; omega) (fun c hc => hl c (List.mem_cons_of_mem _ hc)) g2
        refine ⟨out', a', e', ?_, g3, fun he => by rw [hv he, List.append_assoc]; rfl⟩
        rw [if_neg (by decide), if_pos (by simp; omega), hw]
        exact h
      | false =>
        have g2 : G t b a2 .nil (txt c2 ++ (l.flatMap chE ++ B)) := by simpa using g2
        obtain ⟨v3, a3, e3, h3, g3, w3⟩ := Text_at (n := n) (by omega) hb (most := 32768) (by omega) (by omega) g2
        rw [if_pos (by decide), h3]
        simp only []
        rw [if_pos (by simp; omega), hw]
        rcases errNil_cases e3 with rfl | ⟨he, hne⟩
        · obtain ⟨-, rfl⟩ := w3 rfl
          obtain ⟨out', a', e', h, g4, hv⟩ := parse_run hn hb kind orig l (out ++ [(v1, (v3, false))]) a3 k (by omega) (by simp; omega) (fun c hc => hl c (List.mem_cons_of_mem _ hc)) g3
          exact ⟨out', a', e', h, g4, fun he => by rw [hv he, List.append_assoc]; rfl⟩
        · exact ⟨_, a3, e3, parse_stop (by omega) (by omega) kind _ orig b a3 he _, g3.bad he g3.1 he, fun h => absurd h hne⟩
    · cases v2 with
      | true =>
        rw [if_neg (by decide), if_pos (by simp; omega)]
        exact ⟨_, a2, e2, parse_stop (by omega) (by omega) kind _ orig b a2 he _, g2.bad he g2.1 he, fun h => absurd h hne⟩
      | false =>
        have h3 : wire_Reader_Text n (((), 32768, ()), ((b, (a2 : Int), e2, ()), ())) = some (((⟨#[]⟩ : ByteArray), ()), ((b, (a2 : Int), e2, ()), ())) := by
          obtain ⟨n, rfl⟩ : ∃ m, n = m + 1 := ⟨n - 1, by omega⟩
          simp only [wire_Reader_Text, Num_bad (n := n) (by omega) 0 32768 b a2 he]
          rw [he, if_pos (by decide)]
        rw [if_pos (by decide), h3]
        simp only []
        rw [if_pos (by simp; omega)]
        exact ⟨_, a2, e2, parse_stop (by omega) (by omega) kind _ orig b a2 he _, g2.bad he g2.1 he, fun h => absurd h hne⟩
/-- What was written is said, whatever stands behind. -/
theorem parse_at {n : Nat} (hn : 5000 ≤ n) {l : List ChT} (hl : l.length ≤ 1000) (hs : ∀ c ∈ l, c.1.size ≤ 40 ∧ c.2.1.size ≤ 32768) {kind : Int} (hk : 0 ≤ kind ∧ kind ≤ 1) (r : List Int) (hr : r.length < 100000) :
    jour_parse n (((), ()), (by_ kind l ++ r, ())) = some ((((kind, ()), ((), ()), (true, ()), ()), ()), (by_ kind l ++ r, l.map norm, ())) := by
  obtain ⟨n, rfl⟩ : ∃ m, n = m + 1 := ⟨n - 1, by omega⟩
  have hbl := by_len (kind := kind) hs
  have hb : (by_ kind l ++ r).length < 1000000000 := by rw [List.length_append]; omega
  have g : G (some (by_ kind l).length) (by_ kind l ++ r) 0 .nil (enc kind ++ (enc (l.length : Int) ++ (l.flatMap chE ++ []))) := by
    refine ⟨by omega, .inr ⟨rfl, ?_, r, ?_⟩⟩
    · simp only [by_, List.length_append, List.append_nil]; omega
    · simp only [by_, List.append_nil, List.append_assoc, List.drop_zero]
  have hN : wire_NewReader n (((), ()), (by_ kind l ++ r, ())) = some (((), ()), (by_ kind l ++ r, (by_ kind l ++ r, ((0 : Nat) : Int), ErrV.nil, ()), ())) := by
    obtain ⟨n, rfl⟩ : ∃ m, n = m + 1 := ⟨n - 1, by omega⟩
    simp only [wire_NewReader]
    rw [clone_at (by omega) _ (by omega)]
    rfl
  obtain ⟨v1, a1, e1, h1, g1, w1⟩ := Num_at (n := n) (by omega) hb (lo := 0) (hi := 1) ⟨by omega, by omega⟩ hk.1 hk.2 g
  obtain ⟨v2, a2, e2, h2, g2, w2⟩ := Num_at (n := n) (by omega) hb (lo := 0) (hi := 1073741824) ⟨by omega, by omega⟩ (by omega) (by omega) g1
  have ne : ∀ {a : Nat} {e : ErrV} {E : List Int}, G (some (by_ kind l).length) (by_ kind l ++ r) a e E → e = .nil := fun g => by
    rcases g.2 with ⟨h, -⟩ | ⟨h, -⟩
    · cases h
    · exact h
  obtain rfl := ne g2
  obtain ⟨q1, rfl⟩ := w2 rfl
  obtain ⟨-, rfl⟩ := w1 q1
  obtain ⟨out, a3, e3, h3, g3, w3⟩ := parse_run (n := n) (by omega) hb v1 (by_ v1 l ++ r) l [] a2 n (by omega) (by simp; omega) hs g2
  obtain rfl := ne g3
  have w3 := w3 rfl
  simp only [jour_parse, hN]
  rw [h1]
  simp only []
  rw [h2]
  simp only []
  rw [h3]
  simp only []
  rw [Err_at (by omega), w3]
  rfl
end Go.Proofs.YthbbokndogjopaaGreatDoor.Pure

namespace Go.Proofs.YthbbokndogjopaaGreatDoor.Pure
open Go Go.Lib Go.Proofs.YthbbokndogjopaaGreatDoor.Cm
set_option linter.unusedVariables false
set_option linter.unusedSimpArgs false
set_option maxRecDepth 100000
theorem i64_or_nat (a b : Nat) (ha : a < 9223372036854775808) (hb : b < 9223372036854775808) : bitsOp .or .i64 (a : Int) (b : Int) = ((a ||| b : Nat) : Int) := by
  have hx : a ||| b < 2 ^ 63 := Nat.or_lt_two_pow (by omega) (by omega)
  have oi : ∀ c : Nat, c < 9223372036854775808 → (BitVec.ofInt 64 (c : Int)).toNat = c := fun c hc => by
    rw [BitVec.toNat_ofInt]
    omega
  show IntKind.i64.wrap ((BitVec.ofInt 64 (a : Int) ||| BitVec.ofInt 64 (b : Int)).toNat : Int) = _
  rw [BitVec.toNat_or, oi a ha, oi b hb, w64_id (by omega) (by omega)]
theorem numB_get (X k i : Nat) (hi : i < k) (hk : k ≤ 8) : (numB (X : Int) k).getD i 0 = ((X / 256 ^ i % 256 : Nat) : Int) := by
  unfold numB
  rw [List.getD_eq_getElem?_getD, List.getElem?_map, List.getElem?_range hi]
  show IntKind.u8.wrap (shrOp .i64 (X : Int) (8 * (i : Int))) = _
  show IntKind.u8.wrap ((X : Int).fdiv (2 ^ min (8 * (i : Int)).toNat 64)) = _
  rw [show min (8 * (i : Int)).toNat 64 = 8 * i by omega, Int.fdiv_eq_ediv_of_nonneg _ (Int.le_of_lt (Int.pow_pos (by decide))), Int.pow_mul, show (2 : Int) ^ 8 = 256 from rfl, IntKind.wrap_u8']
  rw [show (256 : Int) ^ i = ((256 ^ i : Nat) : Int) by simp]
  omega
theorem says_at {n : Nat} (hn : 20 ≤ n) {X k : Nat} (hk : k ≤ 8) (hX : X < 4611686018427387904) (hXk : X < 256 ^ k) : jour_says n ((numB (X : Int) k, ()), ()) = some (((X : Int), ()), ()) := by
  obtain ⟨n, rfl⟩ : ∃ m, n = m + 1 := ⟨n - 1, by omega⟩
  have hl := numB_len (X : Int) k
  have h := for_all (F := jour_says_l3 n) (len := k) (fun i => ((((X % 256 ^ i : Nat) : Int), numB (X : Int) k, (k : Int), (i : Int), ()), ())) (r := some (.inl (((X : Int), ()), ()))) (fun i q hi => by
    have hg := numB_get X k i hi hk
    have hw : IntKind.i64.wrap (8 * (i : Int)) = 8 * (i : Int) := w64_id (by omega) (by omega)
    have hp : 0 < 256 ^ i := Nat.pow_pos (by decide)
    have hle : 256 ^ i * (X / 256 ^ i % 256) ≤ X := Nat.le_trans (Nat.mul_le_mul_left _ (Nat.mod_le _ _)) (Nat.mul_div_le X _)
    have hm : X % 256 ^ i < 256 ^ i := Nat.mod_lt _ hp
    have hmX : X % 256 ^ i ≤ X := Nat.mod_le _ _
    have hshl : shlOp .i64 (IntKind.i64.wrap ((X / 256 ^ i % 256 : Nat) : Int)) (8 * (i : Int)) = ((256 ^ i * (X / 256 ^ i % 256) : Nat) : Int) := by
      have hc : X / 256 ^ i % 256 < 256 := Nat.mod_lt _ (by decide)
      rw [w64_id (by omega) (by omega)]
      show IntKind.i64.wrap (((X / 256 ^ i % 256 : Nat) : Int) * 2 ^ min (8 * (i : Int)).toNat 64) = _
      rw [show min (8 * (i : Int)).toNat 64 = 8 * i by omega, Int.pow_mul, show (2 : Int) ^ 8 = 256 from rfl, show (256 : Int) ^ i = ((256 ^ i : Nat) : Int) by simp, ← Int.natCast_mul, Nat.mul_comm, w64_id (by omega) (by omega)]
    have hor : X % 256 ^ i ||| 256 ^ i * (X / 256 ^ i % 256) = X % 256 ^ (i + 1) := by
      rw [Nat.or_comm, Nat.mod_pow_succ, Nat.add_comm]
      have h2 : X % 256 ^ i < 2 ^ (8 * i) := by rw [Nat.pow_mul]; exact hm
      have := Nat.two_pow_add_eq_or_of_lt h2 (X / 256 ^ i % 256)
      rw [Nat.pow_mul] at this
      exact this.symm
    simp only [jour_says_l3]
    rw [if_pos (decide_eq_true (show (i : Int) < (k : Int) by omega)), if_pos (show 0 ≤ (i : Int) ∧ (i : Int) < ((numB (X : Int) k).length : Int) from ⟨by omega, by omega⟩), hw, if_neg (show ¬ (8 * (i : Int) < 0) by omega), rdT_nat, show (numB (X : Int) k).getD i (Ty.dflt (.int .u8)) = ((X / 256 ^ i % 256 : Nat) : Int) from hg, hshl, i64_or_nat _ _ (by omega) (by omega), hor, w64_up i (by omega)]) (fun q => by
    simp only [jour_says_l3]
    rw [if_neg (by simp), Nat.mod_eq_of_lt hXk]) (k := n) (by omega)
  have e0 : jour_says_l3 n n ((0, numB (X : Int) k, (k : Int), 0, ()), ()) = some (.inl (((X : Int), ()), ())) := by
    rw [Nat.pow_zero, Nat.mod_one] at h
    exact h
  simp only [jour_says, hl]
  rw [e0]
theorem sect_cut (Q : Nat) (b : List Int) (j : Nat) : cutL (sect (Q : Int) b j) 0 8 = numB (Q : Int) 8 ∧ cutL (sect (Q : Int) b j) 8 10 = numB (j : Int) 2 ∧ cutL (sect (Q : Int) b j) 10 12 = numB (secs b.length : Int) 2 ∧ cutL (sect (Q : Int) b j) 12 ((sect (Q : Int) b j).length : Int) = chunk b j := by
  have h1 := numB_len (Q : Int) 8
  have h2 := numB_len (j : Int) 2
  have h3 := numB_len (secs b.length : Int) 2
  unfold sect
  generalize numB (Q : Int) 8 = A at h1
  generalize numB (j : Int) 2 = B at h2
  generalize numB (secs b.length : Int) 2 = C at h3
  generalize chunk b j = D
  have e1 : ((A ++ B) ++ C) ++ D = A ++ (B ++ (C ++ D)) := by simp
  refine ⟨?_, ?_, ?_, ?_⟩
  · show ((((A ++ B) ++ C) ++ D).take 8).drop 0 = A
    rw [e1, List.take_append, List.take_of_length_le (by omega), h1]
    simp
  · show ((((A ++ B) ++ C) ++ D).take 10).drop 8 = B
    rw [List.drop_take, e1, show 10 - 8 = B.length by omega, show 8 = A.length by omega, List.drop_left, List.take_left]
  · show ((((A ++ B) ++ C) ++ D).take 12).drop 10 = C
    rw [List.drop_take, show ((A ++ B) ++ C) ++ D = (A ++ B) ++ (C ++ D) by simp, show 10 = (A ++ B).length by simp; omega, List.drop_left, show 12 - (A ++ B).length = C.length by simp; omega, List.take_left]
  · show ((((A ++ B) ++ C) ++ D).take _).drop 12 = D
    rw [Int.toNat_natCast, List.take_length, show 12 = ((A ++ B) ++ C).length by simp; omega, List.drop_left]
/-- A sector that was written is read. -/
theorem read1_at {n : Nat} (hn : 100 < n) {S i c A : Int} (h0 : 0 ≤ i) (h1 : i < S) {f : M} {Q j : Nat} {b : List Int} (hf : mfind ki i f = some (sect (Q : Int) b j)) (hQ : Q < 4611686018427387904) (hj : j < 65536) (hb : secs b.length < 65536) :
    jour_read n (((), i, ()), ((S, (), (), c, A, false, ()), f, ([] : M), ())) = some (((((Q : Int), (j : Int), (secs b.length : Int), chunk b j, ()), (true, ()), (ErrV.nil, ()), ()), ()), ((S, (), (), c, A, false, ()), f, [], ())) := by
  obtain ⟨n, rfl⟩ : ∃ k, n = k + 1 := ⟨n - 1, by omega⟩
  have hl := sect_len (Q : Int) b j
  have hl2 : 12 ≤ (sect (Q : Int) b j).length := by simp only [sect, List.length_append, numB_len]; omega
  obtain ⟨s1, s2, s3, s4⟩ := sect_cut Q b j
  generalize hs : sect (Q : Int) b j = s at hf hl hl2 s1 s2 s3 s4
  have hf : mfind (keyEq ((.int .i64) : Ty)) i f = some s := hf
  have hR : disk_Disk_Read n (((), i, ()), ((S, (), (), c, A, false, ()), f, ([] : M), ())) = some (((((), ()), (true, ()), (ErrV.nil, ()), ()), ()), ((S, (), (), c, A, false, ()), f, [], s, ())) := by
    obtain ⟨n, rfl⟩ : ∃ k, n = k + 1 := ⟨n - 1, by omega⟩
    simp only [disk_Disk_Read]
    rw [if_neg (by decide), if_neg (by simp; omega), if_neg (by simp; omega)]
    have h8 : disk_Disk_Read_c8 n (((), i, (mfind (keyEq ((.int .i64) : Ty)) i ([] : M)).getD [], (mfind (keyEq ((.int .i64) : Ty)) i ([] : M)).isSome, ()), ((S, (), (), c, A, false, ()), f, ([] : M), ())) = some (.inl ((s, true, ()), ((S, (), (), c, A, false, ()), f, [], ()))) := by
      show (some (Sum.inl (((mfind (keyEq ((.int .i64) : Ty)) i f).getD [], (mfind (keyEq ((.int .i64) : Ty)) i f).isSome, ()), ((S, (), (), c, A, false, ()), f, ([] : M), ()))) : Option (OutT disk_Disk_Read_c8_o)) = _
      rw [hf]
      rfl
    rw [h8]
    simp only []
    rw [clone_at (by omega) s (by omega)]
  have hI : errors_Is n ((ErrV.nil, ErrV.sent 118, ()), ()) = some ((false, ()), ()) := by
    obtain ⟨n, rfl⟩ : ∃ k, n = k + 1 := ⟨n - 1, by omega⟩
    rfl
  have hc4 : jour_read_c4 n (((), (), true, ErrV.nil, ()), ((S, (), (), c, A, false, ()), f, ([] : M), (0, 0, 0, (), ()), s, ())) = some (.inl (((), (), ErrV.nil, ()), ((S, (), (), c, A, false, ()), f, [], (0, 0, 0, (), ()), s, ()))) := by
    simp only [jour_read_c4, hI]
    rw [if_neg (by decide), if_pos (by decide), if_neg (by decide), if_neg (by simp; omega)]
  simp only [jour_read, hR]
  rw [hc4]
  simp only []
  rw [if_neg (by decide), if_pos ⟨by omega, by omega⟩, s1, says_at (by omega) (by omega) hQ (Nat.lt_trans hQ (by decide))]
  simp only []
  rw [if_pos ⟨by omega, by omega, by omega⟩, s2, says_at (by omega) (by omega) (by omega) (by show j < 65536; omega)]
  simp only []
  rw [if_pos ⟨by omega, by omega⟩, s3, says_at (by omega) (by omega) (by omega) (by show secs b.length < 65536; omega)]
  simp only []
  rw [if_pos ⟨by omega, by omega⟩, s4]
end Go.Proofs.YthbbokndogjopaaGreatDoor.Pure

namespace Go.Proofs.YthbbokndogjopaaGreatDoor.Pure
open Go Go.Lib Go.Proofs.YthbbokndogjopaaGreatDoor.Cm
set_option linter.unusedVariables false
set_option linter.unusedSimpArgs false
set_option maxRecDepth 100000
/-- What one call wrote at a place. -/
def Wrote (f : M) (a Q : Nat) (b : List Int) : Prop := ∀ j, j < secs b.length → mfind ki ((a + j : Nat) : Int) f = some (sect (Q : Int) b j)
theorem chunks_take (b : List Int) : ∀ i, (List.range i).flatMap (chunk b) = b.take (i * 116)
  | 0 => by simp
  | i + 1 => by
    rw [List.range_succ, List.flatMap_append, chunks_take b i]
    have h := List.take_append_drop (i * 116) (b.take ((i + 1) * 116))
    rw [List.take_take, Nat.min_eq_left (by omega)] at h
    rw [← h]
    simp [chunk]
theorem chunks_all (b : List Int) : (List.range (secs b.length)).flatMap (chunk b) = b := by
  rw [chunks_take, List.take_of_length_le]
  unfold secs
  omega
theorem call_at {n : Nat} (hn : 20000 < n) {S : Nat} (hS : S ≤ 16384) {c A : Int} {f : M} {a en Q above : Nat} {b : List Int} (hb0 : 0 < b.length) (hbl : b.length < 1000000000) (hw : Wrote f a Q b) (hab : above < Q) (hQ : Q < 4611686018427387904) (hr : a + secs b.length ≤ en) (hen : en ≤ S) :
    jour_call n (((), (a : Int), (en : Int), (above : Int), ()), (((S : Int), (), (), c, A, false, ()), f, ([] : M), ())) = some (((((Q : Int), 0, (secs b.length : Int), (), ()), (true, ()), (ErrV.nil, ()), ()), ()), (((S : Int), (), (), c, A, false, ()), f, [], b, ())) := by
  obtain ⟨n, rfl⟩ : ∃ k, n = k + 1 := ⟨n - 1, by omega⟩
  have hn1 : 1 ≤ secs b.length := by unfold secs; omega
  have h0 := read1_at (n := n) (by omega) (S := (S : Int)) (i := (a : Int)) (c := c) (A := A) (by omega) (by omega) (f := f) (Q := Q) (j := 0) (b := b) (hw 0 (by omega)) hQ (by omega) (by omega)
  have hloop := for_all (F := jour_call_l6 n) (len := secs b.length - 1) (fun i => (((), (a : Int), (), (), ((i + 1 : Nat) : Int), ()), (((S : Int), (), (), c, A, false, ()), f, ([] : M), (0, 0, 0, (), ()), ((Q : Int), 0, (secs b.length : Int), (), ()), (List.range (i + 1)).flatMap (chunk b), ()))) (r := some (.inl (((), (), ()), (((S : Int), (), (), c, A, false, ()), f, [], (0, 0, 0, (), ()), ((Q : Int), 0, (secs b.length : Int), (), ()), b, ())))) (fun i k hi => by
    have hj := hw (i + 1) (by omega)
    have hlen : ((List.range (i + 1)).flatMap (chunk b)).length ≤ 1000000000 := by rw [chunks_take, List.length_take]; omega
    have hcl := chunk_len b (i + 1)
    have hat : IntKind.i64.wrap ((a : Int) + ((i + 1 : Nat) : Int)) = ((a + (i + 1) : Nat) : Int) := by rw [w64_id (by omega) (by omega)]; omega
    have h1 := read1_at (n := n) (by omega) (S := (S : Int)) (i := ((a + (i + 1) : Nat) : Int)) (c := c) (A := A) (by omega) (by omega) (f := f) (Q := Q) (j := i + 1) (b := b) hj hQ (by omega) (by omega)
    rw [jour_call_l6, if_pos (decide_eq_true (show ((i + 1 : Nat) : Int) < (secs b.length : Int) by omega))]
    simp only []
    rw [hat, h1]
    simp only []
    rw [if_neg (by decide), if_neg (by decide), if_neg (by simp), if_neg (by simp), if_neg (by simp), if_pos (by omega), w64_up (i + 1) (by omega), List.range_succ (n := i + 1), List.flatMap_append]
    simp only [List.flatMap_cons, List.flatMap_nil, List.append_nil]) (fun k => by
    rw [jour_call_l6, if_neg (by simp; omega), show secs b.length - 1 + 1 = secs b.length by omega, chunks_all]) (k := n) (by omega)
  rw [jour_call]
  rw [show jour_read n (((), (a : Int), ()), (((S : Int), (), (), c, A, false, ()), f, ([] : M), ())) = _ from h0]
  simp only []
  rw [if_neg (by decide), if_neg (by decide), if_neg (by simp; omega), if_neg (by decide), if_neg (by simp; omega), w64_id (by omega) (by omega), if_neg (by simp; omega), clone_at (by omega) _ (by have := chunk_len b 0; omega)]
  simp only []
  have e0 : jour_call_l6 n n (((), (a : Int), (), (), 1, ()), (((S : Int), (), (), c, A, false, ()), f, ([] : M), (0, 0, 0, (), ()), ((Q : Int), ((0 : Nat) : Int), (secs b.length : Int), (), ()), chunk b 0, ())) = some (.inl (((), (), ()), (((S : Int), (), (), c, A, false, ()), f, [], (0, 0, 0, (), ()), ((Q : Int), 0, (secs b.length : Int), (), ()), b, ()))) := by
    have := hloop
    rw [show (List.range (0 + 1)).flatMap (chunk b) = chunk b 0 by simp] at this
    exact this
  rw [e0]
/-- What stands in a sector: nothing, or what a call wrote there. -/
def OkS (f : M) (i : Nat) : Prop := mfind ki (i : Int) f = none ∨ ∃ (Q j : Nat) (b : List Int), mfind ki (i : Int) f = some (sect (Q : Int) b j) ∧ 1 ≤ Q ∧ Q < 4611686018427387904 ∧ j < secs b.length ∧ secs b.length < 65536
/-- Another call's, or nothing. -/
def NotQ (f : M) (Q i : Nat) : Prop := mfind ki (i : Int) f = none ∨ ∃ (Q' j : Nat) (b : List Int), mfind ki (i : Int) f = some (sect (Q' : Int) b j) ∧ Q' ≠ Q ∧ Q' < 4611686018427387904 ∧ j < secs b.length ∧ secs b.length < 65536
/-- No whole call stands there that is above a number. -/
def Stop (f : M) (S en a above : Nat) : Prop := a = S ∨ (a < S ∧ (mfind ki (a : Int) f = none ∨ ∃ (Q j : Nat) (b : List Int), mfind ki (a : Int) f = some (sect (Q : Int) b j) ∧ Q < 4611686018427387904 ∧ j < secs b.length ∧ secs b.length < 65536 ∧ (Q ≤ above ∨ j ≠ 0 ∨ en < a + secs b.length ∨ ∃ i, 1 ≤ i ∧ i < secs b.length ∧ NotQ f Q (a + i))))
theorem readno_at {n : Nat} (hn : 10 < n) {S i c A : Int} (h0 : 0 ≤ i) (h1 : i < S) {f : M} (hf : mfind ki i f = none) : jour_read n (((), i, ()), ((S, (), (), c, A, false, ()), f, ([] : M), ())) = some ((((0, 0, 0, [], ()), (false, ()), (ErrV.nil, ()), ()), ()), ((S, (), (), c, A, false, ()), f, [], ())) := by
  obtain ⟨n, rfl⟩ : ∃ k, n = k + 1 := ⟨n - 1, by omega⟩
  have hf : mfind (keyEq ((.int .i64) : Ty)) i f = none := hf
  have hR : disk_Disk_Read n (((), i, ()), ((S, (), (), c, A, false, ()), f, ([] : M), ())) = some (((((), ()), (false, ()), (ErrV.nil, ()), ()), ()), ((S, (), (), c, A, false, ()), f, [], [], ())) := by
    obtain ⟨n, rfl⟩ : ∃ k, n = k + 1 := ⟨n - 1, by omega⟩
    simp only [disk_Disk_Read]
    rw [if_neg (by decide), if_neg (by simp; omega), if_neg (by simp; omega)]
    have h8 : disk_Disk_Read_c8 n (((), i, (mfind (keyEq ((.int .i64) : Ty)) i ([] : M)).getD [], (mfind (keyEq ((.int .i64) : Ty)) i ([] : M)).isSome, ()), ((S, (), (), c, A, false, ()), f, ([] : M), ())) = some (.inl (([], false, ()), ((S, (), (), c, A, false, ()), f, [], ()))) := by
      show (some (Sum.inl (((mfind (keyEq ((.int .i64) : Ty)) i f).getD [], (mfind (keyEq ((.int .i64) : Ty)) i f).isSome, ()), ((S, (), (), c, A, false, ()), f, ([] : M), ()))) : Option (OutT disk_Disk_Read_c8_o)) = _
      rw [hf]
      rfl
    rw [h8]
    simp only []
    rw [clone_at (by omega) [] (by simp)]
  have hI : errors_Is n ((ErrV.nil, ErrV.sent 118, ()), ()) = some ((false, ()), ()) := by
    obtain ⟨n, rfl⟩ : ∃ k, n = k + 1 := ⟨n - 1, by omega⟩
    rfl
  simp only [jour_read, hR, jour_read_c4, hI]
  rfl
theorem readfull_at {n : Nat} (hn : 10 < n) {S c A : Int} (h0 : 0 ≤ S) {f : M} : jour_read n (((), S, ()), ((S, (), (), c, A, false, ()), f, ([] : M), ())) = some ((((0, 0, 0, [], ()), (false, ()), (ErrV.nil, ()), ()), ()), ((S, (), (), c, A, false, ()), f, [], ())) := by
  obtain ⟨n, rfl⟩ : ∃ k, n = k + 1 := ⟨n - 1, by omega⟩
  have hR : disk_Disk_Read n (((), S, ()), ((S, (), (), c, A, false, ()), f, ([] : M), ())) = some (((((), ()), (false, ()), (ErrV.sent 118, ()), ()), ()), ((S, (), (), c, A, false, ()), f, [], [], ())) := by
    obtain ⟨n, rfl⟩ : ∃ k, n = k + 1 := ⟨n - 1, by omega⟩
    simp only [disk_Disk_Read]
    rw [if_neg (by decide), if_neg (by simp; omega), if_pos (by simp)]
  have hI : errors_Is n ((ErrV.sent 118, ErrV.sent 118, ()), ()) = some ((true, ()), ()) := rfl
  simp only [jour_read, hR, jour_read_c4, hI]
  rfl
theorem call_stop {n : Nat} (hn : 20000 < n) {S : Nat} (hS : S ≤ 16384) {c A : Int} {f : M} (hok : ∀ i, i < S → OkS f i) {a en above : Nat} (hen : a ≤ en ∧ en ≤ S) (h : Stop f S en a above) :
    jour_call n (((), (a : Int), (en : Int), (above : Int), ()), (((S : Int), (), (), c, A, false, ()), f, ([] : M), ())) = some ((((0, 0, 0, (), ()), (false, ()), (ErrV.nil, ()), ()), ()), (((S : Int), (), (), c, A, false, ()), f, [], [], ())) := by
  obtain ⟨n, rfl⟩ : ∃ k, n = k + 1 := ⟨n - 1, by omega⟩
  rcases h with rfl | ⟨hlt, h | ⟨Q, j, b, h, h2, h3, h4, h1⟩⟩
  · rw [jour_call, readfull_at (by omega) (by omega)]
    simp only []
    rw [if_neg (by decide), if_pos (by decide)]
  · rw [jour_call, readno_at (by omega) (by omega) (by omega) h]
    simp only []
    rw [if_neg (by decide), if_pos (by decide)]
  · rw [jour_call, read1_at (by omega) (by omega) (by omega) h h2 (by omega) h4]
    simp only []
    rw [if_neg (by decide), if_neg (by decide)]
    by_cases e1 : Q ≤ above
    · rw [if_pos (by simp; omega)]
    · rw [if_neg (by simp; omega)]
      by_cases e2 : j = 0
      · rw [if_neg (by simp [e2]), if_neg (by simp; omega), w64_id (by omega) (by omega)]
        by_cases e3 : en < a + secs b.length
        · rw [if_pos (decide_eq_true (show (secs b.length : Int) > (en : Int) - (a : Int) by omega))]
        · rw [if_neg (by simp; omega)]
          have hcl := chunk_len b j
          rw [clone_at (by omega) _ (by omega)]
          simp only []
          obtain ⟨t, t1, t2, t3⟩ := (h1.resolve_left e1).resolve_left (fun h => h e2) |>.resolve_left e3
          have main : ∀ d i k (bd : List Int), i + 1 + d = t → d < k → bd.length ≤ 116 * (i + 1) → jour_call_l6 n k (((), (a : Int), (), (), ((i + 1 : Nat) : Int), ()), (((S : Int), (), (), c, A, false, ()), f, ([] : M), (0, 0, 0, (), ()), ((Q : Int), (j : Int), (secs b.length : Int), (), ()), bd, ())) = some (.inr (.inl (((), false, ErrV.nil, ()), (((S : Int), (), (), c, A, false, ()), f, [], (0, 0, 0, (), ()), ())))) := by
            intro d
            induction d with
            | zero =>
              intro i k bd hi hk hbd
              obtain ⟨k, rfl⟩ : ∃ m, k = m + 1 := ⟨k - 1, by omega⟩
              obtain rfl : t = i + 1 := by omega
              have hat : IntKind.i64.wrap ((a : Int) + ((i + 1 : Nat) : Int)) = ((a + (i + 1) : Nat) : Int) := by rw [w64_id (by omega) (by omega)]; omega
              rw [jour_call_l6, if_pos (decide_eq_true (show ((i + 1 : Nat) : Int) < (secs b.length : Int) by omega))]
              simp only []
              rw [hat]
              rcases t3 with t3 | ⟨Q', j', b', t3, u1, u2, u3, u4⟩
              · rw [readno_at (by omega) (by omega) (by omega) t3]
                simp only []
                rw [if_neg (by decide), if_pos (by decide)]
              · rw [read1_at (by omega) (by omega) (by omega) t3 u2 (by omega) u4]
                simp only []
                rw [if_neg (by decide), if_neg (by decide), if_pos (bne_iff_ne.2 (show (Q' : Int) ≠ (Q : Int) by omega))]
            | succ d ih =>
              intro i k bd hi hk hbd
              obtain ⟨k, rfl⟩ : ∃ m, k = m + 1 := ⟨k - 1, by omega⟩
              have hat : IntKind.i64.wrap ((a : Int) + ((i + 1 : Nat) : Int)) = ((a + (i + 1) : Nat) : Int) := by rw [w64_id (by omega) (by omega)]; omega
              rw [jour_call_l6, if_pos (decide_eq_true (show ((i + 1 : Nat) : Int) < (secs b.length : Int) by omega))]
              simp only []
              rw [hat]
              rcases hok (a + (i + 1)) (by omega) with t4 | ⟨Q', j', b', t4, u1, u2, u3, u4⟩
              · rw [readno_at (by omega) (by omega) (by omega) t4]
                simp only []
                rw [if_neg (by decide), if_pos (by decide)]
              · have hcl := chunk_len b' j'
                rw [read1_at (by omega) (by omega) (by omega) t4 u2 (by omega) u4]
                simp only []
                rw [if_neg (by decide), if_neg (by decide)]
                by_cases v1 : Q' = Q
                · rw [if_neg (by simp [v1])]
                  by_cases v2 : j' = i + 1
                  · rw [if_neg (by simp [v2])]
                    by_cases v3 : secs b'.length = secs b.length
                    · rw [if_neg (by simp [v3]), if_pos (by omega), w64_up (i + 1) (by omega)]
                      exact ih (i + 1) k _ (by omega) (by omega) (by rw [List.length_append]; omega)
                    · rw [if_pos (bne_iff_ne.2 (show (secs b'.length : Int) ≠ (secs b.length : Int) by omega))]
                  · rw [if_pos (bne_iff_ne.2 (show (j' : Int) ≠ ((i + 1 : Nat) : Int) by omega))]
                · rw [if_pos (bne_iff_ne.2 (show (Q' : Int) ≠ (Q : Int) by omega))]
          rw [show jour_call_l6 n n (((), (a : Int), (), (), 1, ()), (((S : Int), (), (), c, A, false, ()), f, ([] : M), (0, 0, 0, (), ()), ((Q : Int), (j : Int), (secs b.length : Int), (), ()), chunk b j, ())) = _ from main (t - 1) 0 n (chunk b j) (by omega) (by omega) (by omega)]
      · rw [if_pos (by simp; omega)]
abbrev CallT := Nat × List ChT
def kindOf (above : Nat) : Int := if above = 0 then 0 else 1
def bts (above : Nat) (x : CallT) : List Int := by_ (kindOf above) x.2
/-- Calls that stand one behind the other, from a place on, up to a place; the last one's number. -/
def Ser (f : M) (en : Nat) : List CallT → Nat → Nat → Nat → Nat → Prop
  | [], a, above, e, last => e = a ∧ last = above
  | x :: r, a, above, e, last => above < x.1 ∧ x.1 < 4611686018427387904 ∧ x.2.length ≤ 1000 ∧ (∀ c ∈ x.2, c.1.size ≤ 40 ∧ c.2.1.size ≤ 32768) ∧ Wrote f a x.1 (bts above x) ∧ a + secs (bts above x).length ≤ en ∧ Ser f en r (a + secs (bts above x).length) x.1 e last
def applS (m : MM) (l : List CallT) : MM := l.foldl (fun m x => appl m x.2) m
theorem load_run {n : Nat} (hn : 30000 < n) {S : Nat} (hS : S ≤ 16384) {c A : Int} {f : M} (hok : ∀ i, i < S → OkS f i) {en : Nat} (hen : en ≤ S) : ∀ (l : List CallT) (a above e last k : Nat) (m : MM), l.length < k → a ≤ en → Ser f en l a above e last → Stop f S en e last →
    jour_load_l4 n k (((), (a : Int), (en : Int), (), (above : Int), ()), (((S : Int), (), (), c, A, false, ()), f, ([] : M), m, ())) = some (.inl (((), (e : Int), (last : Int), ErrV.nil, ()), (((S : Int), (), (), c, A, false, ()), f, [], applS m l, ())))
  | [], a, above, e, last, k, m, hk, ha, h, hs => by
    obtain ⟨rfl, rfl⟩ := h
    obtain ⟨k, rfl⟩ : ∃ m, k = m + 1 := ⟨k - 1, by omega⟩
    rw [jour_load_l4, call_stop (by omega) hS hok ⟨ha, hen⟩ hs]
    simp only []
    rw [if_neg (by decide), if_pos (by decide)]
    rfl
  | x :: l, a, above, e, last, k, m, hk, ha, h, hs => by
    obtain ⟨h1, h2, h3, h4, h5, h6, h7⟩ := h
    simp only [List.length_cons] at hk
    obtain ⟨k, rfl⟩ : ∃ m, k = m + 1 := ⟨k - 1, by omega⟩
    have hbl := by_len (kind := kindOf above) h4
    have hpos : 0 < (bts above x).length := by
      have := (enc_len (kindOf above)).1
      simp only [bts, by_, List.length_append]
      omega
    have hk2 : 0 ≤ kindOf above ∧ kindOf above ≤ 1 := by unfold kindOf; split <;> omega
    have hP := parse_at (n := n) (by omega) h3 h4 hk2 [] (by simp)
    rw [List.append_nil] at hP
    have hC := call_at (n := n) (by omega) hS (c := c) (A := A) hpos (by show (by_ _ _).length < _; omega) h5 h1 h2 h6 hen
    have hA := apply_at (n := n) m (x.2.map norm) (by rw [List.length_map]; omega) (by rw [List.length_map]; omega)
    rw [appl_norm] at hA
    have hrec := load_run hn hS (c := c) (A := A) hok hen l (a + secs (bts above x).length) x.1 e last k (appl m x.2) (by omega) (by omega) h7 hs
    rw [jour_load_l4, hC]
    simp only []
    rw [if_neg (by decide), if_neg (by decide), show jour_parse n (((), ()), (bts above x, ())) = _ from hP]
    simp only []
    rw [if_neg (by decide), if_neg (by
      unfold kindOf
      by_cases h0 : above = 0
      · rw [if_pos h0, h0]; decide
      · rw [if_neg h0]
        simp
        omega), hA]
    simp only []
    rw [show IntKind.i64.wrap ((a : Int) + (secs (bts above x).length : Int)) = ((a + secs (bts above x).length : Nat) : Int) by rw [w64_id (by omega) (by omega)]; omega]
    exact hrec
end Go.Proofs.YthbbokndogjopaaGreatDoor.Pure

namespace Go.Proofs.YthbbokndogjopaaGreatDoor.Pure
open Go Go.Lib Go.Proofs.YthbbokndogjopaaGreatDoor.Cm
open Classical
set_option linter.unusedVariables false
set_option linter.unusedSimpArgs false
set_option maxRecDepth 100000
theorem kiq (a b : Int) : (ki a b = true) ↔ a = b := by simp [ki, keyEq]
theorem mfind_append (k : Int) : ∀ a b : M, mfind ki k (a ++ b) = (mfind ki k a).or (mfind ki k b)
  | [], b => rfl
  | p :: a, b => by
    simp only [List.cons_append, mfind]
    split
    · rfl
    · exact mfind_append k a b
theorem mfind_any (k : Int) : ∀ m : M, (m.any fun q => q.1 == k) = (mfind ki k m).isSome
  | [] => rfl
  | p :: m => by
    simp only [List.any_cons, mfind]
    by_cases h : k = p.1
    · rw [if_pos (by simp [ki, keyEq, h]), h]; simp
    · rw [if_neg (by simpa [ki, keyEq] using h), mfind_any k m]
      have : (p.1 == k) = false := by simpa using fun e => h e.symm
      simp [this]
theorem mfind_filter (g : Int → Bool) (k : Int) : ∀ m : M, mfind ki k (m.filter fun p => g p.1) = if g k = true then mfind ki k m else none
  | [] => by simp [mfind]
  | p :: m => by
    rw [List.filter_cons]
    by_cases h : k = p.1
    · subst h
      by_cases hg : g p.1 = true
      · simp only [hg, if_true, mfind]
        rw [if_pos (by simp [ki, keyEq]), if_pos (by simp [ki, keyEq])]
      · rw [if_neg hg, mfind_filter g p.1 m, if_neg hg, if_neg hg]
    · have hk : ¬ ki k p.1 = true := by simpa [ki, keyEq] using h
      split
      · simp only [mfind]
        rw [if_neg hk, if_neg hk, mfind_filter g k m]
      · simp only [mfind]
        rw [if_neg hk, mfind_filter g k m]
theorem mfind_merge (k : Int) (a b : M) : mfind ki k (mergeM a b) = (mfind ki k b).or (mfind ki k a) := by
  unfold mergeM
  rw [mfind_append, mfind_filter (fun x => !b.any fun q => q.1 == x) k a, mfind_any]
  cases mfind ki k b with
  | none => simp
  | some v => simp
theorem mfind_msetI (k : Int) (v : List Int) (s : Int) : ∀ m : M, mfind ki s (mset ki k v m) = if s = k then some v else mfind ki s m
  | [] => by
    unfold mset mfind
    by_cases h : s = k
    · rw [if_pos ((kiq _ _).2 h), if_pos h]
    · rw [if_neg (fun e => h ((kiq _ _).1 e)), if_neg h]; rfl
  | p :: m => by
    unfold mset
    by_cases hk : k = p.1
    · rw [if_pos ((kiq _ _).2 hk)]
      unfold mfind
      by_cases h : s = k
      · rw [if_pos ((kiq _ _).2 h), if_pos h]
      · rw [if_neg (fun e => h ((kiq _ _).1 e)), if_neg h, if_neg (fun e => h (((kiq _ _).1 e).trans hk.symm))]
    · rw [if_neg (fun e => hk ((kiq _ _).1 e))]
      unfold mfind
      by_cases h : s = p.1
      · rw [if_pos ((kiq _ _).2 h), if_pos ((kiq _ _).2 h), if_neg (fun e => hk (e.symm.trans h))]
      · rw [if_neg (fun e => h ((kiq _ _).1 e)), if_neg (fun e => h ((kiq _ _).1 e)), mfind_msetI k v s m]
theorem mfind_wp (a : Nat) (q : Int) (b : List Int) : ∀ (t : Nat) (x : Nat), mfind ki (x : Int) (wp a q b t) = if a ≤ x ∧ x < a + t then some (sect q b (x - a)) else none
  | 0, x => by rw [if_neg (by omega)]; rfl
  | t + 1, x => by
    unfold wp
    rw [mfind_msetI]
    by_cases h : x = a + t
    · rw [if_pos (by omega), if_pos (by omega), h, show a + t - a = t by omega]
    · rw [if_neg (by omega), mfind_wp a q b t x]
      by_cases h2 : a ≤ x ∧ x < a + t
      · rw [if_pos h2, if_pos (by omega)]
      · rw [if_neg h2, if_neg (by omega)]
/-- A number's bytes tell it. -/
theorem numB_inj {X Y : Nat} (hX : X < 4611686018427387904) (hY : Y < 4611686018427387904) (h : numB (X : Int) 8 = numB (Y : Int) 8) : X = Y := by
  have a := says_at (n := 20) (Nat.le_refl _) (X := X) (k := 8) (by omega) hX (Nat.lt_trans hX (by decide))
  have b := says_at (n := 20) (Nat.le_refl _) (X := Y) (k := 8) (by omega) hY (Nat.lt_trans hY (by decide))
  rw [h, b] at a
  injection a with a
  injection a with a _
  injection a with a _
  have a : (Y : Int) = (X : Int) := a
  omega
theorem sect_inj {X Y : Nat} {b c : List Int} {i j : Nat} (hX : X < 4611686018427387904) (hY : Y < 4611686018427387904) (h : sect (X : Int) b i = sect (Y : Int) c j) : X = Y := by
  have a := (sect_cut X b i).1
  have a2 := (sect_cut Y c j).1
  rw [h, a2] at a
  exact numB_inj hX hY a.symm
/-- Every sector has what a call wrote there, of a number up to one. -/
def Dk (S : Nat) (f : M) (q : Nat) : Prop := ∀ i, i < S → mfind ki (i : Int) f = none ∨ ∃ (Q j : Nat) (b : List Int), mfind ki (i : Int) f = some (sect (Q : Int) b j) ∧ 1 ≤ Q ∧ Q ≤ q ∧ j < secs b.length ∧ secs b.length < 65536

theorem Dk.ok {S q : Nat} {f : M} (h : Dk S f q) (hq : q < 4611686018427387904) : ∀ i, i < S → OkS f i := fun i hi => by
  rcases h i hi with h | ⟨Q, j, b, h1, h2, h3, h4, h5⟩
  · exact .inl h
  · exact .inr ⟨Q, j, b, h1, h2, Nat.lt_of_le_of_lt h3 hq, h4, h5⟩
theorem Dk.up {S q q' : Nat} {f : M} (h : Dk S f q) (hq : q ≤ q') : Dk S f q' := fun i hi => by
  rcases h i hi with h | ⟨Q, j, b, h1, h2, h3, h4, h5⟩
  · exact .inl h
  · exact .inr ⟨Q, j, b, h1, h2, Nat.le_trans h3 hq, h4, h5⟩
/-- A call's sectors laid over a disk, some of them. -/
structure Over (f f' : M) (p Q : Nat) (b : List Int) (W : Nat → Prop) : Prop where
  on : ∀ i, i < secs b.length → W i → mfind ki ((p + i : Nat) : Int) f' = some (sect (Q : Int) b i)
  off : ∀ x : Nat, (∀ i, i < secs b.length → W i → x ≠ p + i) → mfind ki (x : Int) f' = mfind ki (x : Int) f
theorem Over.case {f f' : M} {p Q : Nat} {b : List Int} {W : Nat → Prop} (h : Over f f' p Q b W) (x : Nat) : (∃ i, i < secs b.length ∧ W i ∧ x = p + i ∧ mfind ki (x : Int) f' = some (sect (Q : Int) b i)) ∨ ((∀ i, i < secs b.length → W i → x ≠ p + i) ∧ mfind ki (x : Int) f' = mfind ki (x : Int) f) := by
  by_cases e : ∃ i, i < secs b.length ∧ W i ∧ x = p + i
  · obtain ⟨i, h1, h2, h3⟩ := e
    exact .inl ⟨i, h1, h2, h3, by rw [h3]; exact h.on i h1 h2⟩
  · have h0 : ∀ i, i < secs b.length → W i → x ≠ p + i := fun i h1 h2 h3 => e ⟨i, h1, h2, h3⟩
    exact .inr ⟨h0, h.off x h0⟩
theorem Dk.over {S q : Nat} {f f' : M} (h : Dk S f q) {p : Nat} {b : List Int} {W : Nat → Prop} (o : Over f f' p (q + 1) b W) (hb : secs b.length < 65536) : Dk S f' (q + 1) := fun x hx => by
  rcases o.case x with ⟨i, h1, h2, h3, h4⟩ | ⟨h1, h2⟩
  · exact .inr ⟨q + 1, i, b, h4, by omega, Nat.le_refl _, h1, hb⟩
  · rw [h2]
    exact h.up (Nat.le_succ q) x hx
theorem stop_top {S q : Nat} {f : M} (h : Dk S f q) (hq : q < 4611686018427387904) {en x : Nat} (hx : x ≤ S) : Stop f S en x q := by
  rcases Nat.lt_or_ge x S with hlt | hge
  · refine .inr ⟨hlt, ?_⟩
    rcases h x hlt with h | ⟨Q, j, b, h1, h2, h3, h4, h5⟩
    · exact .inl h
    · exact .inr ⟨Q, j, b, h1, Nat.lt_of_le_of_lt h3 hq, h4, h5, .inl h3⟩
  · exact .inl (by omega)
theorem stop_en {S q : Nat} {f : M} (h : Dk S f q) (hq : q < 4611686018427387904) {en above : Nat} (hx : en ≤ S) : Stop f S en en above := by
  rcases Nat.lt_or_ge en S with hlt | hge
  · refine .inr ⟨hlt, ?_⟩
    rcases h en hlt with h | ⟨Q, j, b, h1, h2, h3, h4, h5⟩
    · exact .inl h
    · exact .inr ⟨Q, j, b, h1, Nat.lt_of_le_of_lt h3 hq, h4, h5, .inr (.inr (.inl (by omega)))⟩
  · exact .inl (by omega)
/-- Where nothing whole stands, nothing whole stands behind it, if what is laid over is not whole there. -/
theorem stop_over {S q : Nat} {f f' : M} (h : Dk S f q) (hq : q + 1 < 4611686018427387904) {p : Nat} {b : List Int} {W : Nat → Prop} (o : Over f f' p (q + 1) b W) (hb : secs b.length < 65536) {en x above : Nat} (hen : en ≤ S) (hs : Stop f S en x above) (hT : x = p → W 0 → 0 < secs b.length → ∃ i, 1 ≤ i ∧ i < secs b.length ∧ ¬ W i ∧ p + i < S) : Stop f' S en x above := by
  rcases hs with hs | ⟨hlt, hs⟩
  · exact .inl hs
  refine .inr ⟨hlt, ?_⟩
  rcases o.case x with ⟨i, h1, h2, h3, h4⟩ | ⟨h1, h2⟩
  · refine .inr ⟨q + 1, i, b, h4, hq, h1, hb, ?_⟩
    by_cases hi : i = 0
    · subst hi
      obtain ⟨t, t1, t2, t3, t4⟩ := hT (by omega) h2 (by omega)
      refine .inr (.inr (.inr ⟨t, t1, t2, ?_⟩))
      have hx : x = p := by omega
      subst hx
      rcases o.case (x + t) with ⟨i, g1, g2, g3, g4⟩ | ⟨g1, g2⟩
      · obtain rfl : i = t := by omega
        exact absurd g2 t3
      · unfold NotQ
        rw [g2]
        rcases h (x + t) t4 with g | ⟨Q', j', b', k1, k2, k3, k4, k5⟩
        · exact .inl g
        · exact .inr ⟨Q', j', b', k1, by omega, by omega, k4, k5⟩
    · exact .inr (.inl hi)
  · rcases hs with hs | ⟨Q, j, c, s1, s2, s3, s4, s5⟩
    · exact .inl (by rw [h2]; exact hs)
    · refine .inr ⟨Q, j, c, by rw [h2]; exact s1, s2, s3, s4, ?_⟩
      rcases s5 with s5 | s5 | s5 | ⟨i, i1, i2, i3⟩
      · exact .inl s5
      · exact .inr (.inl s5)
      · exact .inr (.inr (.inl s5))
      · refine .inr (.inr (.inr ⟨i, i1, i2, ?_⟩))
        have hQ : Q ≤ q := by
          rcases h x hlt with g | ⟨Q', j', b', k1, k2, k3, k4, k5⟩
          · rw [s1] at g; cases g
          · rw [s1] at k1
            injection k1 with k1
            have := sect_inj s2 (by omega) k1
            omega
        rcases o.case (x + i) with ⟨i', g1, g2, g3, g4⟩ | ⟨g1, g2⟩
        · exact .inr ⟨q + 1, i', b, g4, by omega, hq, g1, hb⟩
        · unfold NotQ at i3 ⊢
          rw [g2]
          exact i3
theorem Ser.last_le {f : M} {en : Nat} : ∀ {l : List CallT} {a above e last : Nat}, Ser f en l a above e last → above ≤ last ∧ a ≤ e
  | [], a, above, e, last, h => by obtain ⟨rfl, rfl⟩ := h; exact ⟨Nat.le_refl _, Nat.le_refl _⟩
  | x :: r, a, above, e, last, h => by
    obtain ⟨h1, h2, h3, h4, h5, h6, h7⟩ := h
    have := Ser.last_le h7
    omega
theorem Ser.le_en {f : M} {en : Nat} : ∀ {l : List CallT} {a above e last : Nat}, Ser f en l a above e last → a ≤ en → e ≤ en
  | [], a, above, e, last, h, ha => by obtain ⟨rfl, rfl⟩ := h; exact ha
  | x :: r, a, above, e, last, h, ha => by
    obtain ⟨h1, h2, h3, h4, h5, h6, h7⟩ := h
    exact Ser.le_en h7 h6
theorem bts_pos (above : Nat) (x : CallT) : 0 < (bts above x).length := by
  have := (enc_len (kindOf above)).1
  simp only [bts, by_, List.length_append]
  omega
theorem secs_pos {b : List Int} (h : 0 < b.length) : 0 < secs b.length := by unfold secs; omega
/-- A half that is not touched. -/
theorem Ser.same {f f' : M} {en : Nat} : ∀ {l : List CallT} {a above e last : Nat}, Ser f en l a above e last → (∀ x : Nat, a ≤ x → x < e → mfind ki (x : Int) f' = mfind ki (x : Int) f) → Ser f' en l a above e last
  | [], a, above, e, last, h, hs => h
  | x :: r, a, above, e, last, h, hs => by
    obtain ⟨h1, h2, h3, h4, h5, h6, h7⟩ := h
    have hle := (Ser.last_le h7).2
    refine ⟨h1, h2, h3, h4, fun j hj => ?_, h6, Ser.same h7 (fun y hy1 hy2 => hs y (by omega) hy2)⟩
    rw [hs (a + j) (by omega) (by omega)]
    exact h5 j hj
theorem stop_same {S q : Nat} {f f' : M} (h : Dk S f' q) (hq : q < 4611686018427387904) {a en e last : Nat} (hen : en ≤ S) (he : a ≤ e ∧ e ≤ en) (hs : Stop f S en e last) (hf : ∀ x : Nat, a ≤ x → x < en → mfind ki (x : Int) f' = mfind ki (x : Int) f) : Stop f' S en e last := by
  by_cases hee : e = en
  · subst hee
    exact stop_en h hq hen
  rcases hs with hs | ⟨hlt, hs⟩
  · exact .inl hs
  refine .inr ⟨hlt, ?_⟩
  rcases hs with hs | ⟨Q, j, c, s1, s2, s3, s4, s5⟩
  · exact .inl (by rw [hf e he.1 (by omega)]; exact hs)
  · refine .inr ⟨Q, j, c, by rw [hf e he.1 (by omega)]; exact s1, s2, s3, s4, ?_⟩
    rcases s5 with s5 | s5 | s5 | ⟨i, i1, i2, i3⟩
    · exact .inl s5
    · exact .inr (.inl s5)
    · exact .inr (.inr (.inl s5))
    · by_cases hi : e + i < en
      · refine .inr (.inr (.inr ⟨i, i1, i2, ?_⟩))
        unfold NotQ at i3 ⊢
        rw [hf (e + i) (by omega) hi]
        exact i3
      · exact .inr (.inr (.inl (by omega)))
/-- A half that is laid over in part: a beginning of its calls stays. -/
theorem Ser.torn {S q : Nat} {f f' : M} (h : Dk S f q) (hq : q + 1 < 4611686018427387904) {p : Nat} {b : List Int} {W : Nat → Prop} (o : Over f f' p (q + 1) b W) (hb : secs b.length < 65536) {en : Nat} (hen : en ≤ S) (hS : S < 65536) (hT : W 0 → 0 < secs b.length → ∃ i, 1 ≤ i ∧ i < secs b.length ∧ ¬ W i ∧ p + i < S) : ∀ {l : List CallT} {a above e last : Nat}, a ≤ en → last ≤ q → Ser f en l a above e last → Stop f S en e last →
    ∃ l' e' last', Ser f' en l' a above e' last' ∧ Stop f' S en e' last' ∧ last' ≤ last
  | [], a, above, e, last, ha, hl, hse, hst => by
    obtain ⟨rfl, rfl⟩ := hse
    exact ⟨[], e, last, ⟨rfl, rfl⟩, stop_over h hq o hb hen hst (fun _ => hT), Nat.le_refl _⟩
  | x :: r, a, above, e, last, ha, hl, hse, hst => by
    obtain ⟨h1, h2, h3, h4, h5, h6, h7⟩ := hse
    have hll := (Ser.last_le h7).1
    have hpos := secs_pos (bts_pos above x)
    by_cases hov : ∃ j, j < secs (bts above x).length ∧ ∃ i, i < secs b.length ∧ W i ∧ a + j = p + i
    · refine ⟨[], a, above, ⟨rfl, rfl⟩, .inr ⟨by omega, ?_⟩, by omega⟩
      rcases o.case a with ⟨i, g1, g2, g3, g4⟩ | ⟨g1, g2⟩
      · refine .inr ⟨q + 1, i, b, g4, hq, g1, hb, ?_⟩
        by_cases hi : i = 0
        · subst hi
          obtain ⟨t, t1, t2, t3, t4⟩ := hT g2 g1
          refine .inr (.inr (.inr ⟨t, t1, t2, ?_⟩))
          obtain rfl : a = p := by omega
          rcases o.case (a + t) with ⟨i, k1, k2, k3, k4⟩ | ⟨k1, k2⟩
          · obtain rfl : i = t := by omega
            exact absurd k2 t3
          · unfold NotQ
            rw [k2]
            rcases h (a + t) t4 with g | ⟨Q', j', b', m1, m2, m3, m4, m5⟩
            · exact .inl g
            · exact .inr ⟨Q', j', b', m1, by omega, by omega, m4, m5⟩
        · exact .inr (.inl hi)
      · obtain ⟨j, j1, i, i1, i2, i3⟩ := hov
        have hj0 : 1 ≤ j := by
          rcases Nat.eq_zero_or_pos j with rfl | hp
          · exact absurd (by omega) (g1 i i1 i2)
          · exact hp
        have h0 := h5 0 hpos
        refine .inr ⟨x.1, 0, bts above x, by rw [g2]; exact h0, h2, hpos, by omega, .inr (.inr (.inr ⟨j, hj0, j1, ?_⟩))⟩
        rw [i3]
        exact .inr ⟨q + 1, i, b, o.on i i1 i2, by omega, hq, i1, hb⟩
    · obtain ⟨l', e', last', k1, k2, k3⟩ := Ser.torn h hq o hb hen hS hT h6 hl h7 hst
      refine ⟨x :: l', e', last', ⟨h1, h2, h3, h4, fun j hj => ?_, h6, k1⟩, k2, k3⟩
      rw [o.off (a + j) (fun i i1 i2 i3 => hov ⟨j, hj, i, i1, i2, i3⟩)]
      exact h5 j hj
theorem Ser.append {f : M} {en : Nat} {y : CallT} {e2 l2 : Nat} : ∀ {l : List CallT} {a above e last : Nat}, Ser f en l a above e last → Ser f en [y] e last e2 l2 → Ser f en (l ++ [y]) a above e2 l2
  | [], a, above, e, last, h, h2 => by obtain ⟨rfl, rfl⟩ := h; exact h2
  | x :: r, a, above, e, last, h, h2 => by
    obtain ⟨h1, h2', h3, h4, h5, h6, h7⟩ := h
    exact ⟨h1, h2', h3, h4, h5, h6, Ser.append h7 h2⟩
end Go.Proofs.YthbbokndogjopaaGreatDoor.Pure
