/- CodeUnlike, in plain words: what is laid can be taken apart again. By this session. -/
import Derived.Test.YtjccbolnjnefiaaDoorCodeD
namespace Go.Proofs.YtjccbolnjnefiaaDoor.Pure
open Go Go.Lib Go.Proofs.YtjccbolnjnefiaaDoor.Cm
set_option linter.unusedVariables false
set_option linter.unusedSimpArgs false
/-- What is laid can be told apart, whatever stands behind. -/
def PF {α : Type} (D : α → Prop) (f : α → List Int) : Prop := ∀ a b r s, D a → D b → f a ++ r = f b ++ s → a = b ∧ r = s
theorem PF.list {α : Type} {D : α → Prop} {f : α → List Int} (h : PF D f) : ∀ (l m : List α) (r s : List Int), (∀ a ∈ l, D a) → (∀ a ∈ m, D a) → l.length = m.length → l.flatMap f ++ r = m.flatMap f ++ s → l = m ∧ r = s
  | [], [], r, s, _, _, _, e => ⟨rfl, by simpa using e⟩
  | a :: l, b :: m, r, s, hl, hm, hlen, e => by
    simp only [List.flatMap_cons, List.append_assoc] at e
    obtain ⟨rfl, e2⟩ := h a b _ _ (hl a List.mem_cons_self) (hm b List.mem_cons_self) e
    obtain ⟨rfl, e3⟩ := PF.list h l m r s (fun c hc => hl c (List.mem_cons_of_mem _ hc)) (fun c hc => hm c (List.mem_cons_of_mem _ hc)) (by simpa using hlen) e2
    exact ⟨rfl, e3⟩
  | [], b :: m, r, s, _, _, hlen, _ => by simp at hlen
  | a :: l, [], r, s, _, _, hlen, _ => by simp at hlen
theorem encF_succ (k : Nat) (z : Int) : encF (k + 1) z = if 128 ≤ z then (z % 128 + 128) :: encF k (z / 128) else [z] := rfl
theorem encF_pf : ∀ (k : Nat) (y z : Int) (r s : List Int), 0 ≤ y → 0 ≤ z → y < 128 ^ (k + 1) → z < 128 ^ (k + 1) → encF (k + 1) y ++ r = encF (k + 1) z ++ s → y = z ∧ r = s
  | 0, y, z, r, s, hy, hz, by_, bz, e => by
    simp only [Int.pow_succ, Int.pow_zero] at by_ bz
    rw [encF_succ, encF_succ 0 z, if_neg (by omega), if_neg (by omega)] at e
    simpa using e
  | k + 1, y, z, r, s, hy, hz, by_, bz, e => by
    rw [encF_succ (k + 1) y, encF_succ (k + 1) z] at e
    rw [pow_step] at by_ bz
    by_cases h1 : 128 ≤ y
    · by_cases h2 : 128 ≤ z
      · rw [if_pos h1, if_pos h2, List.cons_append, List.cons_append, List.cons.injEq] at e
        have := encF_pf k (y / 128) (z / 128) r s (by omega) (by omega) (Int.ediv_lt_of_lt_mul (by decide) (by rw [Int.mul_comm]; exact by_)) (Int.ediv_lt_of_lt_mul (by decide) (by rw [Int.mul_comm]; exact bz)) e.2
        have e1 := e.1
        have e2 := this.1
        exact ⟨by omega, this.2⟩
      · rw [if_pos h1, if_neg h2, List.cons_append, List.cons_append, List.cons.injEq] at e
        have e1 := e.1
        omega
    · by_cases h2 : 128 ≤ z
      · rw [if_neg h1, if_pos h2, List.cons_append, List.cons_append, List.cons.injEq] at e
        have e1 := e.1
        omega
      · rw [if_neg h1, if_neg h2] at e
        simpa using e
theorem zig_inj {y z : Int} (h : zig y = zig z) : y = z := by
  unfold zig at h
  split at h <;> split at h <;> omega
theorem enc_pf : PF I64 enc := fun a b r s ha hb e => by
  have h1 := zig_range ha.1 ha.2
  have h2 := zig_range hb.1 hb.2
  have := encF_pf 9 (zig a) (zig b) r s h1.1 h2.1 (Int.lt_trans h1.2 (by decide)) (Int.lt_trans h2.2 (by decide)) e
  exact ⟨zig_inj this.1, this.2⟩
theorem bytesL_inj {a b : ByteArray} (h : bytesL a = bytesL b) : a = b := by
  unfold bytesL at h
  have h2 : a.data.toList = b.data.toList := by
    refine (List.map_inj_right (f := fun x : UInt8 => (x.toNat : Int)) (fun x y e => ?_)).1 h
    exact UInt8.toNat_inj.1 (by have e : (x.toNat : Int) = y.toNat := e; omega)
  cases a; cases b
  congr 1
  exact Array.toList_inj.1 h2
theorem txt_pf : PF (fun s : ByteArray => s.size ≤ 300) txt := fun a b r s ha hb e => by
  simp only [txt, List.append_assoc] at e
  obtain ⟨h1, h2⟩ := enc_pf (a.size : Int) (b.size : Int) _ _ ⟨by omega, by omega⟩ ⟨by omega, by omega⟩ e
  have hl : (bytesL a).length = (bytesL b).length := by rw [bytesL_len, bytesL_len]; omega
  have := List.append_inj h2 hl
  exact ⟨bytesL_inj this.1, this.2⟩
theorem nums1_pf : PF I64 (fun z => nums [z]) := fun a b r s ha hb e => enc_pf a b r s ha hb (by simpa [nums] using e)
theorem len_pf : PF (fun m : Nat => m ≤ 100000) (fun m => nums [(m : Int)]) := fun a b r s ha hb e => by
  have := nums1_pf (a : Int) (b : Int) r s ⟨by omega, by omega⟩ ⟨by omega, by omega⟩ e
  exact ⟨by omega, this.2⟩
theorem nums_pf (l m : List Int) (r s : List Int) (hl : I64s l) (hm : I64s m) (hlen : l.length = m.length) (e : nums l ++ r = nums m ++ s) : l = m ∧ r = s := enc_pf.list l m r s hl hm hlen e
theorem cellE_pf : PF (fun c : CellT => c.1.size ≤ 300 ∧ I64 c.2.1 ∧ I64 c.2.2) cellE := fun a b r s ha hb e => by
  obtain ⟨a1, a2, a3⟩ := a
  obtain ⟨b1, b2, b3⟩ := b
  simp only [cellE, List.append_assoc] at e
  obtain ⟨rfl, e1⟩ := txt_pf a1 b1 _ _ ha.1 hb.1 e
  obtain ⟨rfl, e2⟩ := nums1_pf a2 b2 _ _ ha.2.1 hb.2.1 e1
  obtain ⟨rfl, e3⟩ := enc_pf a3 b3 _ _ ha.2.2 hb.2.2 e2
  exact ⟨rfl, e3⟩
theorem instE_pf : PF (fun c : InstT => c.1.size ≤ 300 ∧ c.2.size ≤ 300) instE := fun a b r s ha hb e => by
  obtain ⟨a1, a2⟩ := a
  obtain ⟨b1, b2⟩ := b
  simp only [instE, List.append_assoc] at e
  obtain ⟨rfl, e1⟩ := txt_pf a1 b1 _ _ ha.1 hb.1 e
  obtain ⟨rfl, e2⟩ := txt_pf a2 b2 _ _ ha.2 hb.2 e1
  exact ⟨rfl, e2⟩
theorem instrE_pf : PF (fun c : InstrT => I64 c.1 ∧ I64 c.2.1 ∧ I64 c.2.2.1 ∧ I64 c.2.2.2.1 ∧ I64 c.2.2.2.2.1 ∧ I64 c.2.2.2.2.2) instrE := fun a b r s ha hb e => by
  obtain ⟨a1, a2, a3, a4, a5, a6⟩ := a
  obtain ⟨b1, b2, b3, b4, b5, b6⟩ := b
  obtain ⟨g1, g2, g3, g4, g5, g6⟩ := ha
  obtain ⟨k1, k2, k3, k4, k5, k6⟩ := hb
  simp only [instrE, List.append_assoc] at e
  obtain ⟨h, e1⟩ := nums_pf [a1, a2, a3, a4, a5] [b1, b2, b3, b4, b5] _ _ (fun z hz => by simp only [List.mem_cons, List.not_mem_nil, or_false] at hz; rcases hz with rfl | rfl | rfl | rfl | rfl <;> assumption) (fun z hz => by simp only [List.mem_cons, List.not_mem_nil, or_false] at hz; rcases hz with rfl | rfl | rfl | rfl | rfl <;> assumption) rfl e
  obtain ⟨rfl, e2⟩ := enc_pf a6 b6 _ _ g6 k6 e1
  simp only [List.cons.injEq, and_true] at h
  obtain ⟨rfl, rfl, rfl, rfl, rfl⟩ := h
  exact ⟨rfl, e2⟩
theorem objE_pf {x1 : ByteArray} {x2 x3 : List Int} {x4 : Int} {x5 : List CellT} {x6 : List InstT} {x7 : List InstrT} {y1 : ByteArray} {y2 y3 : List Int} {y4 : Int} {y5 : List CellT} {y6 : List InstT} {y7 : List InstrT}
    (ox : ObjOk x1 x2 x3 x4 x5 x6 x7) (gx : ObjGood x2 x3 x4 x5 x7) (oy : ObjOk y1 y2 y3 y4 y5 y6 y7) (gy : ObjGood y2 y3 y4 y5 y7) {r s : List Int} (e : objE x1 x2 x3 x4 x5 x6 x7 ++ r = objE y1 y2 y3 y4 y5 y6 y7 ++ s) :
    (x1 = y1 ∧ x2 = y2 ∧ x3 = y3 ∧ x4 = y4 ∧ x5 = y5 ∧ x6 = y6 ∧ x7 = y7) ∧ r = s := by
  obtain ⟨n1, n2, n3, n5, n6, n7, c5, c6⟩ := ox
  obtain ⟨m1, m2, m3, m5, m6, m7, d5, d6⟩ := oy
  obtain ⟨i2, i3, i4, i5, i7⟩ := gx
  obtain ⟨j2, j3, j4, j5, j7⟩ := gy
  simp only [objE, List.append_assoc] at e
  obtain ⟨rfl, e1⟩ := txt_pf _ _ _ _ n1 m1 e
  obtain ⟨h2, e2⟩ := len_pf x2.length y2.length _ _ (by omega) (by omega) e1
  obtain ⟨rfl, e3⟩ := nums_pf _ _ _ _ i2 j2 h2 e2
  obtain ⟨h3, e4⟩ := len_pf x3.length y3.length _ _ (by omega) (by omega) e3
  obtain ⟨rfl, e5⟩ := nums_pf _ _ _ _ i3 j3 h3 e4
  obtain ⟨h4, e5_⟩ := nums_pf [x4, (x5.length : Int)] [y4, (y5.length : Int)] _ _ (fun z hz => by
    simp only [List.mem_cons, List.not_mem_nil, or_false] at hz
    rcases hz with rfl | rfl
    · exact i4
    · exact ⟨by omega, by omega⟩) (fun z hz => by
    simp only [List.mem_cons, List.not_mem_nil, or_false] at hz
    rcases hz with rfl | rfl
    · exact j4
    · exact ⟨by omega, by omega⟩) rfl e5
  simp only [List.cons.injEq, and_true] at h4
  obtain ⟨rfl, h5⟩ := h4
  obtain ⟨rfl, e6⟩ := cellE_pf.list x5 y5 _ _ (fun c hc => ⟨c5 c hc, i5 c hc⟩) (fun c hc => ⟨d5 c hc, j5 c hc⟩) (by omega) e5_
  obtain ⟨h6, e7⟩ := len_pf x6.length y6.length _ _ (by omega) (by omega) e6
  obtain ⟨rfl, e8⟩ := instE_pf.list x6 y6 _ _ c6 d6 h6 e7
  obtain ⟨h7, e9⟩ := len_pf x7.length y7.length _ _ (by omega) (by omega) e8
  obtain ⟨rfl, e10⟩ := instrE_pf.list x7 y7 _ _ i7 j7 h7 e9
  exact ⟨⟨rfl, rfl, rfl, rfl, rfl, rfl, rfl⟩, e10⟩
abbrev tyO : Ty := .pair .str (.pair ty3 (.pair ty3 (.pair (.int .i64) (.pair ty9 (.pair ty10 ty11)))))
theorem good_obj {a : tyO.T} (h : Cm.Good Cm.P tyO a) :
    ObjGood a.2.1 a.2.2.1 a.2.2.2.1 a.2.2.2.2.1 a.2.2.2.2.2.2 := by
  obtain ⟨-, h2, h3, h4, h5, h6, h7⟩ := h
  refine ⟨fun z hz => lit_i64 (h2.2 z hz), fun z hz => lit_i64 (h3.2 z hz), lit_i64 h4, fun c hc => ?_, fun c hc => ?_⟩
  · obtain ⟨-, k1, k2⟩ := h5.2 c hc
    exact ⟨lit_i64 k1, lit_i64 k2⟩
  · obtain ⟨k1, k2, k3, k4, k5, k6⟩ := h7.2 c hc
    exact ⟨lit_i64 k1, lit_i64 k2, lit_i64 k3, lit_i64 k4, lit_i64 k5, lit_i64 k6⟩
theorem cutL_take (l : List Int) (n : Nat) : cutL l 0 (n : Int) = l.take n := by simp [cutL]
theorem mn_nat (a b : Nat) : mn (a : Int) (b : Int) = ((min a b : Nat) : Int) := by
  unfold mn
  split <;> omega
/-- Like so far as the shorter one goes: the same. -/
theorem same_iff {x1 : ByteArray} {x2 x3 : List Int} {x4 : Int} {x5 : List CellT} {x6 : List InstT} {x7 : List InstrT} {y1 : ByteArray} {y2 y3 : List Int} {y4 : Int} {y5 : List CellT} {y6 : List InstT} {y7 : List InstrT}
    (ox : ObjOk x1 x2 x3 x4 x5 x6 x7) (gx : ObjGood x2 x3 x4 x5 x7) (oy : ObjOk y1 y2 y3 y4 y5 y6 y7) (gy : ObjGood y2 y3 y4 y5 y7) {X Y : List Int} (hX : X = objE x1 x2 x3 x4 x5 x6 x7) (hY : Y = objE y1 y2 y3 y4 y5 y6 y7) :
    X.take (min X.length Y.length) = Y.take (min X.length Y.length) ↔ (x1 = y1 ∧ x2 = y2 ∧ x3 = y3 ∧ x4 = y4 ∧ x5 = y5 ∧ x6 = y6 ∧ x7 = y7) := by
  constructor
  · intro h
    rcases Nat.le_total X.length Y.length with hl | hl
    · rw [Nat.min_eq_left hl, List.take_length] at h
      have e : X ++ Y.drop X.length = Y ++ [] := by
        rw [List.append_nil]
        conv => lhs; lhs; rw [h]
        exact List.take_append_drop _ _
      rw [hX, hY] at e
      exact (objE_pf ox gx oy gy e).1
    · rw [Nat.min_eq_right hl, List.take_length] at h
      have e : X ++ [] = Y ++ X.drop Y.length := by
        rw [List.append_nil]
        conv => rhs; lhs; rw [← h]
        exact (List.take_append_drop _ _).symm
      rw [hX, hY] at e
      exact (objE_pf ox gx oy gy e).1
  · rintro ⟨rfl, rfl, rfl, rfl, rfl, rfl, rfl⟩
    rw [hX, hY]
theorem objE_len {x1 : ByteArray} {x2 x3 : List Int} {x4 : Int} {x5 : List CellT} {x6 : List InstT} {x7 : List InstrT} (ox : ObjOk x1 x2 x3 x4 x5 x6 x7) : (objE x1 x2 x3 x4 x5 x6 x7).length ≤ 900000 := by
  obtain ⟨n1, n2, n3, n5, n6, n7, c5, c6⟩ := ox
  have a1 := txt_len x1
  have a2 := nums_len x2
  have a3 := nums_len x3
  have s1 : ∀ z : Int, (nums [z]).length ≤ 10 := fun z => by have := nums_len [z]; simpa using this
  have s2 : ∀ y z : Int, (nums [y, z]).length ≤ 20 := fun y z => by have := nums_len [y, z]; simpa using this
  have q1 := s1 (x2.length : Int)
  have q2 := s1 (x3.length : Int)
  have q3 := s2 x4 (x5.length : Int)
  have q4 := s1 (x6.length : Int)
  have q5 := s1 (x7.length : Int)
  have f5 := flat_len cellE 330 x5 (fun c hc => cellE_len c (c5 c hc))
  have f6 := flat_len instE 630 x6 (fun c hc => instE_len c (c6 c hc))
  have f7 := flat_len instrE 60 x7 (fun c hc => instrE_len c)
  simp only [objE, List.length_append]
  omega
theorem CodeUnlike : law21_CodeUnlike.Pure := by
  intro a b ga gb
  refine ⟨1000000 + 1, ?_⟩
  have ga := good_obj ga
  have gb := good_obj gb
  obtain ⟨x1, x2, x3, x4, x5, x6, x7⟩ := a
  obtain ⟨y1, y2, y3, y4, y5, y6, y7⟩ := b
  simp only at ga gb ⊢
  generalize hn : (1000000 : Nat) = n
  have hn : 1000000 ≤ n := by omega
  obtain ⟨p, hp, op⟩ := object_at (n := n) (by omega) x1 x2 x3 x4 x5 x6 x7
  obtain ⟨q, hq, oq⟩ := object_at (n := n) (by omega) y1 y2 y3 y4 y5 y6 y7
  simp only [law21_CodeUnlike, first_at (n := n) (by omega), hp]
  rw [if_neg (by simp)]
  cases p with
  | false => rfl
  | true =>
    rw [if_neg (by simp), hq]
    cases q with
    | false => rfl
    | true =>
      have op := op rfl
      have oq := oq rfl
      obtain ⟨e, X, hX, eX⟩ := bytes_at (n := n) (by omega) x1 x2 x3 x4 x5 x6 x7 op ga
      obtain ⟨f, Y, hY, eY⟩ := bytes_at (n := n) (by omega) y1 y2 y3 y4 y5 y6 y7 oq gb
      simp only []
      rw [if_neg (by simp), if_neg (by simp), hX]
      simp only []
      rw [hY]
      simp only []
      cases he : errNil e with
      | false => rfl
      | true =>
        rw [if_neg (by simp)]
        cases hf : errNil f with
        | false => rfl
        | true =>
          have eX := eX he
          have eY := eY hf
          rw [if_neg (by simp), mn_nat, if_pos ⟨by omega, by omega⟩, if_pos ⟨by omega, by omega⟩, cutL_take, cutL_take]
          have hXl : X.length ≤ 900000 := by
            rw [eX]
            exact objE_len op
          rw [SameBytes_at _ _ (by simp only [List.length_take]; omega) (by simp only [List.length_take]; omega)]
          simp only []
          rw [SameObject_at (by omega) x1 x2 x3 x4 x5 x6 x7 y1 y2 y3 y4 y5 y6 y7 op]
          simp only []
          have := same_iff op ga oq gb eX eY
          by_cases hs : X.take (min X.length Y.length) = Y.take (min X.length Y.length)
          · rw [decide_eq_true hs, decide_eq_true (this.1 hs)]
            rfl
          · rw [decide_eq_false hs, decide_eq_false (fun h => hs (this.2 h))]
            rfl
end Go.Proofs.YtjccbolnjnefiaaDoor.Pure
