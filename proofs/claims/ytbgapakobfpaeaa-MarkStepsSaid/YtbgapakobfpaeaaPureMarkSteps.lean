/- MarkSteps: whatever the text, the place of the cut and the two bytes, the statement answers true. No condition. -/
import Derived.Test.YtbgapakobfpaeaaKMarkx1
namespace Go.Proofs.Ytbgapakobfpaeaa.Pure
open Go.RowKit Go.Proofs.Ytbgapakobfpaeaa.KMark Go.Proofs.YtbgapakobfpaeaaW.PrintWords Go.Proofs.YtbgapakobfpaeaaW.PrintLast

theorem wrap_u64 (n : Int) : IntKind.u64.wrap n = n % 18446744073709551616 := by simp [IntKind.wrap, IntKind.bits, IntKind.signed]

/-- One byte more, over 64 bits. -/
def stepB (m : BitVec 64) (c : UInt8) : BitVec 64 := (m ^^^ BitVec.ofNat 64 c.toNat) * 1099511628211#64

theorem wrap_toNat (b : BitVec 64) : IntKind.u64.wrap (b.toNat : Int) = (b.toNat : Int) := by
  rw [wrap_u64]
  have := b.isLt
  omega

theorem step_eq (m : BitVec 64) (c : UInt8) (n : Int) (hn : n = (c.toNat : Int)) :
    IntKind.u64.wrap ((Go.bits .xor .u64 (m.toNat : Int) (IntKind.u64.wrap n)) * 1099511628211) = ((stepB m c).toNat : Int) := by
  subst hn
  have hc : IntKind.u64.wrap (c.toNat : Int) = ((c.toNat : Nat) : Int) := by rw [wrap_u64]; have := c.toNat_lt; omega
  have hx : Go.bits .xor .u64 (m.toNat : Int) (c.toNat : Int) = ((m ^^^ BitVec.ofNat 64 c.toNat).toNat : Int) := by
    show IntKind.u64.wrap ((BitVec.ofInt 64 (m.toNat : Int) ^^^ BitVec.ofInt 64 (c.toNat : Int)).toNat : Int) = _
    rw [wrap_toNat, BitVec.ofInt_natCast, BitVec.ofInt_natCast, BitVec.ofNat_toNat, BitVec.setWidth_eq]
  rw [hc, hx, wrap_u64, stepB, BitVec.toNat_mul]
  generalize (m ^^^ BitVec.ofNat 64 c.toNat).toNat = x
  show (x : Int) * 1099511628211 % 18446744073709551616 = ((x * 1099511628211 % 2 ^ 64 : Nat) : Int)
  omega

theorem step_inj {m : BitVec 64} {a b : UInt8} (h : stepB m a = stepB m b) : a = b := by
  unfold stepB at h
  have hp : (1099511628211#64 : BitVec 64) * 14886173955864302971#64 = 1#64 := by decide
  have h1 := congrArg (· * 14886173955864302971#64) h
  simp only [BitVec.mul_assoc, hp, BitVec.mul_one] at h1
  have h2 := congrArg (m ^^^ ·) h1
  simp only [← BitVec.xor_assoc, BitVec.xor_self, BitVec.zero_xor] at h2
  have h3 := congrArg BitVec.toNat h2
  simp only [BitVec.toNat_ofNat] at h3
  have := a.toNat_lt
  have := b.toNat_lt
  exact UInt8.toNat_inj.1 (by omega)

theorem bt_get (s : ByteArray) (i : Nat) (h : i < s.size) : bt s (i : Int) = ((s.data.toList[i]'(by simpa using h)).toNat : Int) := by
  unfold bt
  rw [dif_pos (by simpa using h)]
  rfl

theorem wrap_up {i : Int} (h0 : 0 ≤ i) (h : i < 4611686018427387904) : wrap64 (i + 1) = i + 1 := by unfold wrap64; omega

theorem add_l0 (s : ByteArray) (hs : s.size ≤ 4611686018427387904) (d : Nat) : ∀ (k : Nat) (b : BitVec 64) (i : Nat), i ≤ s.size → s.size - i = d → d < k →
    mark_Add.l0 k (b.toNat : Int) s (s.size : Int) (i : Int) = some ((((s.data.toList.drop i).foldl stepB b).toNat : Nat) : Int) := by
  induction d with
  | zero =>
    intro k b i hi hd hk
    obtain ⟨k, rfl⟩ : ∃ m, k = m + 1 := ⟨k - 1, by omega⟩
    simp only [mark_Add.l0]
    rw [if_neg (by omega), List.drop_of_length_le (by rw [data_length]; omega)]
    rfl
  | succ d ih =>
    intro k b i hi hd hk
    obtain ⟨k, rfl⟩ : ∃ m, k = m + 1 := ⟨k - 1, by omega⟩
    have hlt : i < s.size := by omega
    simp only [mark_Add.l0]
    rw [if_pos (by omega), if_pos (by omega), if_pos (by omega), step_eq b _ _ (bt_get s i hlt), wrap_up (by omega) (by omega),
      List.drop_eq_getElem_cons (by rw [data_length]; exact hlt), List.foldl_cons]
    exact ih k _ (i + 1) (by omega) (by omega) (by omega)

theorem add_f (k : Nat) (b : BitVec 64) (s : ByteArray) (hs : s.size ≤ 4611686018427387904) (hk : s.size < k) :
    mark_Add.f k (b.toNat : Int) s = some (((s.data.toList.foldl stepB b).toNat : Nat) : Int) := by
  have := add_l0 s hs s.size k b 0 (by omega) (by omega) hk
  simpa [mark_Add.f] using this

/-- What a mark begins with. -/
def begin_ : BitVec 64 := 14695981039346656037#64

theorem of_f (k : Nat) (s : ByteArray) (hs : s.size ≤ 4611686018427387904) (hk : s.size < k) :
    mark_Of.f k s = some (((s.data.toList.foldl stepB begin_).toNat : Nat) : Int) := by
  have h := add_f k begin_ s hs hk
  unfold mark_Of.f
  rw [show (14695981039346656037 : Int) = ((begin_.toNat : Nat) : Int) from rfl, h]
  rfl

theorem number_f (a n : Int) (h0 : 0 < n) (h1 : n < 4611686018427387904) : ∃ t, pendulumworld_Number.f a n = some t ∧ 0 ≤ t ∧ t < n := by
  have hu := Int.tmod_lt_of_pos a h0
  have hl := Int.lt_tmod_of_pos a h0
  unfold pendulumworld_Number.f
  rw [if_neg (by omega)]
  by_cases h : Int.tmod a n < 0
  · rw [if_pos h]
    refine ⟨_, rfl, ?_⟩
    unfold wrap64
    omega
  · rw [if_neg h]
    exact ⟨_, rfl, by omega, hu⟩

theorem first_f : pendulumlaw2_first.f 1000 = some true := by kernel_rfl

theorem str_one (a : Int) : (strOfNums [a]).data.toList = [UInt8.ofNat a.toNat] := rfl

theorem append_data (s t : ByteArray) : (s ++ t).data.toList = s.data.toList ++ t.data.toList := by
  rw [ByteArray.data_append, Array.toList_append]

theorem MarkSteps : pendulumlaw2_MarkSteps.Pure := by
  intro s cut a b hs _ ha hb
  refine ⟨1000, ?_⟩
  unfold pendulumlaw2_MarkSteps.f
  rw [first_f, Option.bind_some, if_pos rfl]
  by_cases h : (s.size : Int) > 300
  · rw [if_pos h]
    simp only [pendulumlaw2_MarkSteps.j0, if_true]
  · rw [if_neg h]
    obtain ⟨t, ht, ht0, ht1⟩ := number_f cut (wrap64 ((s.size : Int) + 1)) (by unfold wrap64; omega) (by unfold wrap64; omega)
    have ht2 : t ≤ (s.size : Int) := by unfold wrap64 at ht1; omega
    have sz (c : Int) : (s ++ strOfNums [c]).size = s.size + 1 := by rw [ByteArray.size_append, strOfNums_size]; rfl
    have of1 (x : ByteArray) (hx : x.size ≤ 302) : mark_Of.f 999 x = some (((x.data.toList.foldl stepB begin_).toNat : Nat) : Int) := of_f 999 x (by omega) (by omega)
    have e1 : (s.extract 0 t.toNat).data.toList = s.data.toList.take t.toNat := by simp [ByteArray.data_extract]
    have e2 : (s.extract t.toNat s.size).data.toList = s.data.toList.drop t.toNat := by
      simp [ByteArray.data_extract]
      rw [List.take_of_length_le (by rw [List.length_drop, data_length]; omega)]
    have s1 : (s.extract 0 t.toNat).size ≤ 302 := by rw [ByteArray.size_extract]; omega
    have s2 : (s.extract t.toNat s.size).size < 999 := by rw [ByteArray.size_extract]; omega
    simp only [pendulumlaw2_MarkSteps.j0]
    rw [if_neg (by simp), ht, Option.bind_some, Option.bind_some, if_pos (by rw [strOfNums_size]; simp; omega), of1 _ (by rw [sz]; omega), Option.bind_some, Option.bind_some, if_pos (by rw [strOfNums_size]; simp; omega),
      of1 _ (by rw [sz]; omega), Option.bind_some, if_pos ht0, if_pos ht2, of1 _ s1, Option.bind_some, add_f 999 _ _ (by omega) s2, Option.bind_some, of1 s (by omega), Option.bind_some, if_pos]
    · rw [append_data, append_data, str_one, str_one, List.foldl_append, List.foldl_append]
      simp only [List.foldl_cons, List.foldl_nil]
      generalize s.data.toList.foldl stepB begin_ = m
      have ha' : 0 ≤ a ∧ a ≤ 255 := by simpa [Lit.wf, IntKind.min, IntKind.max, IntKind.bits, IntKind.signed] using ha
      have hb' : 0 ≤ b ∧ b ≤ 255 := by simpa [Lit.wf, IntKind.min, IntKind.max, IntKind.bits, IntKind.signed] using hb
      by_cases hab : a = b
      · subst hab; simp
      · have hne : stepB m (UInt8.ofNat a.toNat) ≠ stepB m (UInt8.ofNat b.toNat) := by
          intro h
          have h1 := congrArg UInt8.toNat (step_inj h)
          simp only [UInt8.toNat_ofNat'] at h1
          omega
        have h2 : ¬ ((stepB m (UInt8.ofNat a.toNat)).toNat : Int) = ((stepB m (UInt8.ofNat b.toNat)).toNat : Int) := fun h => hne (BitVec.eq_of_toNat_eq (by omega))
        rw [beq_eq_false_iff_ne.2 h2, beq_eq_false_iff_ne.2 hab]
        rfl
    · rw [e1, e2, ← List.foldl_append, List.take_append_drop]
end Go.Proofs.Ytbgapakobfpaeaa.Pure
