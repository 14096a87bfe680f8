/- What the functions of package mark, and the document's, answer, in plain words: marks over 64 bits, sixteen digits, and back. -/
import Derived.Test.YtbgapakobfpaeaaKMarkx2
namespace Go.Proofs.Ytbgapakobfpaeaa.MarkA
open Go.RowKit Go.Proofs.Ytbgapakobfpaeaa.KMark Go.Proofs.YtbgapakobfpaeaaW.PrintWords Go.Proofs.YtbgapakobfpaeaaW.PrintLast Go.Proofs.YtbgapakobfpaeaaW.PrintMore

theorem wrap_u64 (n : Int) : IntKind.u64.wrap n = n % 18446744073709551616 := by simp [IntKind.wrap, IntKind.bits, IntKind.signed]

/-- One byte more, over 64 bits. -/
def stepB (m : BitVec 64) (c : UInt8) : BitVec 64 := (m ^^^ BitVec.ofNat 64 c.toNat) * 1099511628211#64

theorem wrap_toNat (b : BitVec 64) : IntKind.u64.wrap (b.toNat : Int) = (b.toNat : Int) := by
  rw [wrap_u64]
  have := b.isLt
  omega

theorem step_eq (m : BitVec 64) (c : UInt8) (n : Int) (hn : n = (c.toNat : Int)) :
    IntKind.u64.wrap ((Go.bits .xor .u64 (m.toNat : Int) (IntKind.u64.wrap n)) * 1099511628211) = ((stepB m c).toNat : Int) := by
  subst hn
  have hc : IntKind.u64.wrap (c.toNat : Int) = ((c.toNat : Nat) : Int) := by rw [wrap_u64]; have := c.toNat_lt; omega
  have hx : Go.bits .xor .u64 (m.toNat : Int) (c.toNat : Int) = ((m ^^^ BitVec.ofNat 64 c.toNat).toNat : Int) := by
    show IntKind.u64.wrap ((BitVec.ofInt 64 (m.toNat : Int) ^^^ BitVec.ofInt 64 (c.toNat : Int)).toNat : Int) = _
    rw [wrap_toNat, BitVec.ofInt_natCast, BitVec.ofInt_natCast, BitVec.ofNat_toNat, BitVec.setWidth_eq]
  rw [hc, hx, wrap_u64, stepB, BitVec.toNat_mul]
  generalize (m ^^^ BitVec.ofNat 64 c.toNat).toNat = x
  show (x : Int) * 1099511628211 % 18446744073709551616 = ((x * 1099511628211 % 2 ^ 64 : Nat) : Int)
  omega

theorem step_inj {m : BitVec 64} {a b : UInt8} (h : stepB m a = stepB m b) : a = b := by
  unfold stepB at h
  have hp : (1099511628211#64 : BitVec 64) * 14886173955864302971#64 = 1#64 := by decide
  have h1 := congrArg (· * 14886173955864302971#64) h
  simp only [BitVec.mul_assoc, hp, BitVec.mul_one] at h1
  have h2 := congrArg (m ^^^ ·) h1
  simp only [← BitVec.xor_assoc, BitVec.xor_self, BitVec.zero_xor] at h2
  have h3 := congrArg BitVec.toNat h2
  simp only [BitVec.toNat_ofNat] at h3
  have := a.toNat_lt
  have := b.toNat_lt
  exact UInt8.toNat_inj.1 (by omega)

theorem bt_get (s : ByteArray) (i : Nat) (h : i < s.size) : bt s (i : Int) = ((s.data.toList[i]'(by simpa using h)).toNat : Int) := by
  unfold bt
  rw [dif_pos (by simpa using h)]
  rfl

theorem wrap_up {i : Int} (h0 : 0 ≤ i) (h : i < 4611686018427387904) : wrap64 (i + 1) = i + 1 := by unfold wrap64; omega

theorem add_l0 (s : ByteArray) (hs : s.size ≤ 4611686018427387904) (d : Nat) : ∀ (k : Nat) (b : BitVec 64) (i : Nat), i ≤ s.size → s.size - i = d → d < k →
    mark_Add.l0 k (b.toNat : Int) s (s.size : Int) (i : Int) = some ((((s.data.toList.drop i).foldl stepB b).toNat : Nat) : Int) := by
  induction d with
  | zero =>
    intro k b i hi hd hk
    obtain ⟨k, rfl⟩ : ∃ m, k = m + 1 := ⟨k - 1, by omega⟩
    simp only [mark_Add.l0]
    rw [if_neg (by omega), List.drop_of_length_le (by rw [data_length]; omega)]
    rfl
  | succ d ih =>
    intro k b i hi hd hk
    obtain ⟨k, rfl⟩ : ∃ m, k = m + 1 := ⟨k - 1, by omega⟩
    have hlt : i < s.size := by omega
    simp only [mark_Add.l0]
    rw [if_pos (by omega), if_pos (by omega), if_pos (by omega), step_eq b _ _ (bt_get s i hlt), wrap_up (by omega) (by omega),
      List.drop_eq_getElem_cons (by rw [data_length]; exact hlt), List.foldl_cons]
    exact ih k _ (i + 1) (by omega) (by omega) (by omega)

theorem add_f (k : Nat) (b : BitVec 64) (s : ByteArray) (hs : s.size ≤ 4611686018427387904) (hk : s.size < k) :
    mark_Add.f k (b.toNat : Int) s = some (((s.data.toList.foldl stepB b).toNat : Nat) : Int) := by
  have := add_l0 s hs s.size k b 0 (by omega) (by omega) hk
  simpa [mark_Add.f] using this

/-- What a mark begins with. -/
def begin_ : BitVec 64 := 14695981039346656037#64

theorem of_f (k : Nat) (s : ByteArray) (hs : s.size ≤ 4611686018427387904) (hk : s.size < k) :
    mark_Of.f k s = some (((s.data.toList.foldl stepB begin_).toNat : Nat) : Int) := by
  have h := add_f k begin_ s hs hk
  unfold mark_Of.f
  rw [show (14695981039346656037 : Int) = ((begin_.toNat : Nat) : Int) from rfl, h]
  rfl

theorem number_f (a n : Int) (h0 : 0 < n) (h1 : n < 4611686018427387904) : ∃ t, pendulumworld_Number.f a n = some t ∧ 0 ≤ t ∧ t < n := by
  have hu := Int.tmod_lt_of_pos a h0
  have hl := Int.lt_tmod_of_pos a h0
  unfold pendulumworld_Number.f
  rw [if_neg (by omega)]
  by_cases h : Int.tmod a n < 0
  · rw [if_pos h]
    refine ⟨_, rfl, ?_⟩
    unfold wrap64
    omega
  · rw [if_neg h]
    exact ⟨_, rfl, by omega, hu⟩

theorem first_f : pendulumlaw2_first.f 1000 = some true := by kernel_rfl


/-! ## the digits -/
def chr (d : Nat) : UInt8 := if d < 10 then UInt8.ofNat (48 + d) else UInt8.ofNat (87 + d)
def hexChars : Nat → Nat → List UInt8
  | 0, _ => []
  | n + 1, m => hexChars n (m / 16) ++ [chr (m % 16)]
theorem hexChars_length (n m : Nat) : (hexChars n m).length = n := by
  induction n generalizing m with
  | zero => rfl
  | succ n ih => simp [hexChars, ih]
theorem chr_toNat : ∀ d : Fin 16, (chr d.1).toNat = if d.1 < 10 then 48 + d.1 else 87 + d.1 := by decide
theorem chr_hex {d : Nat} (h : d < 16) : isHex (chr d).toNat ∧ digit (chr d).toNat = d := by
  have := chr_toNat ⟨d, h⟩
  simp only at this
  rw [this]
  unfold isHex digit
  split <;> simp <;> omega
theorem hexChars_all (n m : Nat) : allHex (hexChars n m) := by
  induction n generalizing m with
  | zero => intro c hc; cases hc
  | succ n ih => exact mark_Read.all_snoc (ih _) (chr_hex (Nat.mod_lt _ (by omega))).1
theorem hexChars_val (n m : Nat) : hexVal (hexChars n m) = m % 16 ^ n := by
  induction n generalizing m with
  | zero => simp [hexChars, hexVal]; omega
  | succ n ih =>
    rw [hexChars, mark_Read.hexVal_snoc, ih, (chr_hex (Nat.mod_lt _ (by omega))).2, Nat.pow_succ, Nat.mul_comm (16 ^ n) 16, Nat.mod_mul]
    omega
theorem hexChars_range (n m : Nat) : hexChars n m = (List.range n).map fun i => chr (m / 16 ^ (n - 1 - i) % 16) := by
  induction n generalizing m with
  | zero => rfl
  | succ n ih =>
    rw [hexChars, ih, List.range_succ, List.map_append, List.map_singleton]
    congr 1
    · apply List.map_congr_left
      intro i hi
      have hi := List.mem_range.1 hi
      rw [Nat.div_div_eq_div_mul, ← Nat.pow_succ', show (n - 1 - i).succ = n + 1 - 1 - i by omega]
    · simp

/-- The number of the i-th letter of a mark's text. -/
def let_ (m i : Nat) : Int := ((chr (m / 16 ^ (15 - i) % 16)).toNat : Int)
theorem text_nums (m : Nat) : strOfNums ((List.range 16).map (let_ m)) = ⟨(hexChars 16 m).toArray⟩ := by
  unfold strOfNums
  rw [hexChars_range, List.map_map]
  congr 2
  apply List.map_congr_left
  intro i _
  simp [let_]
theorem pow16 (i : Nat) : 2 ^ (4 * i) = 16 ^ i := by rw [Nat.pow_mul]
theorem shr_eq (m i : Nat) (h : i ≤ 15) (n : Int) (hn : n = ((4 * i : Nat) : Int)) : shr .u64 (m : Int) n = ((m / 16 ^ i : Nat) : Int) := by
  subst hn
  unfold shr
  rw [Int.toNat_natCast, Nat.min_eq_left (by show 4 * i ≤ 64; omega), ← pow16]
  simp
theorem and15 (x : Nat) (h : x < 2 ^ 64) : Go.bits .and .u64 (x : Int) 15 = ((x % 16 : Nat) : Int) := by
  have := bits_mask .u64 64 (by decide) (fun n h0 h1 => by rw [wrap_u64]; omega) 4 (by omega) (x : Int) (by omega) (by omega)
  rw [show (15 : Int) = 2 ^ 4 - 1 by decide, this]
  simp
theorem digit_at (m i : Nat) (hm : m < 2 ^ 64) (h : i ≤ 15) (n : Int) (hn : n = ((4 * i : Nat) : Int)) : Go.bits .and .u64 (shr .u64 (m : Int) n) 15 = ((m / 16 ^ i % 16 : Nat) : Int) := by
  rw [shr_eq m i h n hn, and15 _ (Nat.lt_of_le_of_lt (Nat.div_le_self _ _) hm)]
theorem table : ∀ d : Fin 16, bt (⟨#[48, 49, 50, 51, 52, 53, 54, 55, 56, 57, 97, 98, 99, 100, 101, 102]⟩ : ByteArray) ((d.1 : Nat) : Int) = ((chr d.1).toNat : Int) := by decide +kernel
theorem table_at {d : Nat} (h : d < 16) : bt (⟨#[48, 49, 50, 51, 52, 53, 54, 55, 56, 57, 97, 98, 99, 100, 101, 102]⟩ : ByteArray) (d : Int) = ((chr d).toNat : Int) := table ⟨d, h⟩

theorem text_l0 (m : Nat) (hm : m < 2 ^ 64) (d : Nat) : ∀ (k i : Nat) (xs : List Int), i + d = 16 → d < k → xs.length = 16 → xs.take i = (List.range i).map (let_ m) →
    mark_Text.l0 k (m : Int) xs 16 (i : Int) = some ⟨(hexChars 16 m).toArray⟩ := by
  induction d with
  | zero =>
    intro k i xs hi hk hl hx
    obtain ⟨k, rfl⟩ : ∃ m, k = m + 1 := ⟨k - 1, by omega⟩
    obtain rfl : i = 16 := by omega
    simp only [mark_Text.l0]
    rw [if_neg (by omega), ← text_nums, ← hx, List.take_of_length_le (by omega)]
  | succ d ih =>
    intro k i xs hi hk hl hx
    obtain ⟨k, rfl⟩ : ∃ m, k = m + 1 := ⟨k - 1, by omega⟩
    have e1 : wrap64 (60 - wrap64 (4 * (i : Int))) = ((4 * (15 - i) : Nat) : Int) := by unfold wrap64; omega
    have e2 := digit_at m (15 - i) hm (by omega) _ e1
    have hd : m / 16 ^ (15 - i) % 16 < 16 := Nat.mod_lt _ (by omega)
    simp only [mark_Text.l0]
    rw [if_pos (by omega), if_pos (by rw [e1]; omega), e2, if_pos (by omega), if_pos (by omega), if_pos (by omega), if_pos (by omega), table_at hd, wrap_up (by omega) (by omega)]
    refine ih k (i + 1) _ (by omega) (by omega) (by simpa using hl) ?_
    rw [Int.toNat_natCast, List.range_succ, List.map_append, ← hx, List.take_succ_eq_append_getElem (by simp; omega), List.getElem_set_self, List.take_set_of_le (by omega)]
    rfl
theorem text_f (k m : Nat) (hm : m < 2 ^ 64) (hk : 16 < k) : mark_Text.f k (m : Int) = some ⟨(hexChars 16 m).toArray⟩ := by
  have := text_l0 m hm 16 k 0 (List.replicate 16 0) (by omega) hk (by simp) rfl
  unfold mark_Text.f
  rw [if_pos (by omega), Option.bind_some]
  exact this

/-! ## the document's -/
theorem refMark_l0 (s : ByteArray) (hs : s.size ≤ 4611686018427387904) (d : Nat) : ∀ (k : Nat) (b : BitVec 64) (i : Nat), i ≤ s.size → s.size - i = d → d < k →
    pendulumref1_Mark.l0 k (b.toNat : Int) s (i : Int) = some ((((s.data.toList.drop i).foldl stepB b).toNat : Nat) : Int) := by
  induction d with
  | zero =>
    intro k b i hi hd hk
    obtain ⟨k, rfl⟩ : ∃ m, k = m + 1 := ⟨k - 1, by omega⟩
    simp only [pendulumref1_Mark.l0]
    rw [if_neg (by omega), List.drop_of_length_le (by rw [data_length]; omega)]
    rfl
  | succ d ih =>
    intro k b i hi hd hk
    obtain ⟨k, rfl⟩ : ∃ m, k = m + 1 := ⟨k - 1, by omega⟩
    have hlt : i < s.size := by omega
    simp only [pendulumref1_Mark.l0]
    rw [if_pos (by omega), if_pos (by omega), step_eq b _ _ (bt_get s i hlt), wrap_up (by omega) (by omega),
      List.drop_eq_getElem_cons (by rw [data_length]; exact hlt), List.foldl_cons]
    exact ih k _ (i + 1) (by omega) (by omega) (by omega)
theorem refMark_f (k : Nat) (b : BitVec 64) (s : ByteArray) (hs : s.size ≤ 4611686018427387904) (hk : s.size < k) :
    pendulumref1_Mark.f k (b.toNat : Int) s = some (((s.data.toList.foldl stepB b).toNat : Nat) : Int) := by
  have := refMark_l0 s hs s.size k b 0 (by omega) (by omega) hk
  simpa [pendulumref1_Mark.f] using this
theorem refText_l0 (m : Nat) (hm : m < 2 ^ 64) (d : Nat) : ∀ (k i : Nat), i + d = 16 → d < k →
    pendulumref1_MarkText.l0 k (m : Int) ((List.range i).map (let_ m)) (15 - (i : Int)) = some ⟨(hexChars 16 m).toArray⟩ := by
  induction d with
  | zero =>
    intro k i hi hk
    obtain ⟨k, rfl⟩ : ∃ m, k = m + 1 := ⟨k - 1, by omega⟩
    obtain rfl : i = 16 := by omega
    simp only [pendulumref1_MarkText.l0]
    rw [if_neg (by omega), text_nums]
  | succ d ih =>
    intro k i hi hk
    obtain ⟨k, rfl⟩ : ∃ m, k = m + 1 := ⟨k - 1, by omega⟩
    have e1 : IntKind.u64.wrap (wrap64 (4 * (15 - (i : Int)))) = ((4 * (15 - i) : Nat) : Int) := by rw [wrap_u64]; unfold wrap64; omega
    have e2 := digit_at m (15 - i) hm (by omega) _ e1
    have hd : m / 16 ^ (15 - i) % 16 < 16 := Nat.mod_lt _ (by omega)
    have hc := chr_toNat ⟨_, hd⟩
    simp only at hc
    have hl : ((List.range i).map (let_ m)).length < 140737488355328 := by simp; omega
    have hw : wrap64 (15 - (i : Int) - 1) = 15 - ((i + 1 : Nat) : Int) := by unfold wrap64; omega
    have hs : (List.range (i + 1)).map (let_ m) = (List.range i).map (let_ m) ++ [let_ m i] := by rw [List.range_succ, List.map_append]; rfl
    simp only [pendulumref1_MarkText.l0]
    rw [if_pos (by omega), if_pos (by rw [e1]; omega), e2]
    by_cases h10 : m / 16 ^ (15 - i) % 16 < 10
    · rw [if_pos (by omega), if_pos hl, hw]
      rw [show (48 + ((m / 16 ^ (15 - i) % 16 : Nat) : Int)) % 256 = let_ m i by unfold let_; rw [hc, if_pos h10]; omega, ← hs]
      exact ih k (i + 1) (by omega) (by omega)
    · rw [if_neg (by omega), if_pos hl, hw]
      rw [show (97 + ((m / 16 ^ (15 - i) % 16 : Nat) : Int) - 10) % 256 = let_ m i by unfold let_; rw [hc, if_neg h10]; omega, ← hs]
      exact ih k (i + 1) (by omega) (by omega)
theorem refText_f (k m : Nat) (hm : m < 2 ^ 64) (hk : 16 < k) : pendulumref1_MarkText.f k (m : Int) = some ⟨(hexChars 16 m).toArray⟩ := refText_l0 m hm 16 k 0 (by omega) hk

theorem refRead_l0 (s : ByteArray) (hs : s.size = 16) (d : Nat) : ∀ (k i : Nat), i + d = 16 → 2 * d < k → allHex (s.data.toList.take i) →
    pendulumref1_ReadMark.l0 k s (hexVal (s.data.toList.take i) : Int) (i : Int) = some (if allHex s.data.toList then ((hexVal s.data.toList : Int), true) else (0, false)) := by
  induction d with
  | zero =>
    intro k i hi hk ha
    obtain ⟨k, rfl⟩ : ∃ m, k = m + 1 := ⟨k - 1, by omega⟩
    rw [List.take_of_length_le (by rw [data_length]; omega)] at ha ⊢
    simp only [pendulumref1_ReadMark.l0]
    rw [if_neg (by omega), if_pos ha]
  | succ d ih =>
    intro k i hi hk ha
    obtain ⟨k, rfl⟩ : ∃ m, k = m + 1 + 1 := ⟨k - 2, by omega⟩
    have hp : i < s.size := by omega
    have hsn : s.data.toList.take (i + 1) = s.data.toList.take i ++ [s.data.toList[i]'(by rw [data_length]; exact hp)] := List.take_succ_eq_append_getElem (by rw [data_length]; exact hp)
    have hb := bt_get s i hp
    obtain ⟨c, hc⟩ : ∃ c, c = s.data.toList[i]'(by rw [data_length]; exact hp) := ⟨_, rfl⟩
    rw [← hc] at hsn hb
    have hmem : c ∈ s.data.toList := by rw [hc]; exact List.getElem_mem _
    have hlt := mark_Read.hexVal_lt _ ha
    have hlt2 : hexVal (s.data.toList.take i) < 16 ^ 15 := Nat.lt_of_lt_of_le hlt (Nat.pow_le_pow_right (by omega) (by rw [List.length_take]; omega))
    have hw : IntKind.u64.wrap ((hexVal (s.data.toList.take i) : Int) * 16) = (hexVal (s.data.toList.take i) : Int) * 16 := by rw [wrap_u64]; omega
    have hcl := c.toNat_lt
    simp only [pendulumref1_ReadMark.l0]
    rw [if_pos (by omega), if_pos (by omega), if_pos (by omega), hb]
    by_cases hx : isHex c.toNat
    · have hgo := ih k (i + 1) (by omega) (by omega) (by rw [hsn]; exact mark_Read.all_snoc ha hx)
      rw [hsn, mark_Read.hexVal_snoc] at hgo
      rcases hx with ⟨h1, h2⟩ | ⟨h1, h2⟩
      · rw [if_pos (by omega)]
        simp only [pendulumref1_ReadMark.j1]
        rw [if_pos (by simp; omega), hw, mark_Read.or_digit hlt2 (by omega) (by omega), wrap_up (by omega) (by omega)]
        have : digit c.toNat = c.toNat - 48 := by unfold digit; rw [if_pos h2]
        rw [this] at hgo
        rw [show (hexVal (s.data.toList.take i) : Int) * 16 + ((c.toNat : Int) - 48) % 256 = ((hexVal (s.data.toList.take i) * 16 + (c.toNat - 48) : Nat) : Int) by omega]
        exact hgo
      · rw [if_pos (by omega)]
        simp only [pendulumref1_ReadMark.j1]
        rw [if_neg (by simp; omega), if_pos (by omega), if_pos (by omega), hw, mark_Read.or_digit hlt2 (by omega) (by omega), wrap_up (by omega) (by omega)]
        have : digit c.toNat = c.toNat - 87 := by unfold digit; rw [if_neg (by omega)]
        rw [this] at hgo
        rw [show (hexVal (s.data.toList.take i) : Int) * 16 + ((c.toNat : Int) - 97 + 10) % 256 = ((hexVal (s.data.toList.take i) * 16 + (c.toNat - 87) : Nat) : Int) by omega]
        exact hgo
    · have hno : ¬ allHex s.data.toList := fun h => hx (h _ hmem)
      rw [if_neg hno]
      unfold isHex at hx
      by_cases h48 : (c.toNat : Int) ≥ 48
      · rw [if_pos h48]
        simp only [pendulumref1_ReadMark.j1]
        rw [if_neg (by simp; omega)]
        by_cases h97 : (c.toNat : Int) ≥ 97
        · rw [if_pos h97, if_neg (by omega)]
        · rw [if_neg h97]
      · rw [if_neg h48]
        simp only [pendulumref1_ReadMark.j1]
        rw [if_neg (by simp), if_neg (by omega)]
theorem refRead_f (k : Nat) (s : ByteArray) (hk : 40 < k) : pendulumref1_ReadMark.f k s = mark_Read.f s := by
  unfold pendulumref1_ReadMark.f mark_Read.f
  by_cases hs : s.size = 16
  · rw [if_pos (by omega)]
    have := refRead_l0 s hs 16 k 0 (by omega) (by omega) (fun c hc => by simp at hc)
    simp only [List.take_zero] at this
    rw [show hexVal [] = 0 from rfl] at this
    simpa [hs] using this
  · rw [if_neg (by omega), if_neg (fun h => hs h.1)]
end Go.Proofs.Ytbgapakobfpaeaa.MarkA
