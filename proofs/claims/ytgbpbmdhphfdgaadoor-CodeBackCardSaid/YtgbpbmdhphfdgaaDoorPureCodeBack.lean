/- CodeBack, in plain words: what is laid is read as it; cut off it is none. By this session. -/
import Derived.Test.YtgbpbmdhphfdgaaDoorCodeBackG
namespace Go.Proofs.YtgbpbmdhphfdgaaDoor.Pure
open Go Go.Lib Go.Proofs.YtgbpbmdhphfdgaaDoor.Cm
set_option linter.unusedVariables false
set_option linter.unusedSimpArgs false
theorem objE_eq (x1 : ByteArray) (x2 x3 : List Int) (x4 : Int) (x5 : List CellT) (x6 : List InstT) (x7 : List InstrT) (B : List Int) : objE x1 x2 x3 x4 x5 x6 x7 ++ B =
    txt x1 ++ (enc (x2.length : Int) ++ (nums x2 ++ (enc (x3.length : Int) ++ (nums x3 ++ (enc x4 ++ (enc (x5.length : Int) ++ (x5.flatMap cellE ++ (enc (x6.length : Int) ++ (x6.flatMap instE ++ (enc (x7.length : Int) ++ (x7.flatMap instrE ++ B))))))))))) := by
  simp only [objE, nums_one, nums_two, List.append_assoc]
/-- An object, whole or cut off. -/
theorem codeobj_at {n : Nat} (hn : 1000 ≤ n) {t : Option Nat} {b : List Int} (hb : b.length < 1000000000) {a : Nat} {e : ErrV} {B : List Int} {x1 : ByteArray} {x2 x3 : List Int} {x4 : Int} {x5 : List CellT} {x6 : List InstT} {x7 : List InstrT}
    (ok : ObjOk x1 x2 x3 x4 x5 x6 x7) (gd : ObjGood x2 x3 x4 x5 x7) (ft : Fit x1 x2 x3 x4 x5 x6 x7) (g : G t b a e (objE x1 x2 x3 x4 x5 x6 x7 ++ B)) :
    ∃ y1 y2 y3 y4 y5 y6 y7 a' e', code_object n (((), ()), ((b, (a : Int), e, ()), ())) = some (((y1, (), (), y4, (), (), (), ()), ()), ((b, ((a' : Nat) : Int), e', ()), y2, y3, y5, y6, y7, ())) ∧ G t b a' e' B ∧ (e' = .nil → y1 = x1 ∧ y2 = x2 ∧ y3 = x3 ∧ y4 = x4 ∧ y5 = x5 ∧ y6 = x6 ∧ y7 = x7) := by
  obtain ⟨n, rfl⟩ : ∃ m, n = m + 1 := ⟨n - 1, by omega⟩
  obtain ⟨n1, n2, n3, n5, n6, n7, -, -⟩ := ok
  obtain ⟨i2, i3, i4, i5, i7⟩ := gd
  obtain ⟨f1, f2, f3, t2, t3, f4, f5, f6, f7⟩ := ft
  rw [objE_eq] at g
  obtain ⟨y1, a1, e1, h1, g1, v1⟩ := Text_at (n := n) (by omega) hb (most := 200) (by omega) (by omega) g
  obtain ⟨y2, a2, e2, h2, g2, v2⟩ := types_at (n := n) (by omega) hb f2 t2 g1
  obtain ⟨y3, a3, e3, h3, g3, v3⟩ := types_at (n := n) (by omega) hb f3 t3 g2
  obtain ⟨y4, a4, e4, h4, g4, v4⟩ := Num_at (n := n) (by omega) hb (lo := 0) (hi := 1024) i4 f4.1 f4.2 g3
  obtain ⟨m5, a5, e5, h5, g5, v5⟩ := Num_at (n := n) (by omega) hb (lo := 0) (hi := 1024) ⟨by omega, by omega⟩ (by omega) (by omega) g4
  obtain ⟨y5, a6, e6, h6, g6, v6⟩ := l5_at (n := n) (by omega) hb ⟨#[]⟩ y1 0 y4 y2 y3 (l := x5) (by omega) (fun c hc => ⟨(f5 c hc).1, (f5 c hc).2, (i5 c hc).2⟩) (fun h => (v5 h).2) g5
  obtain ⟨m6, a7, e7, h7, g7, v7⟩ := Num_at (n := n) (by omega) hb (lo := 0) (hi := 256) ⟨by omega, by omega⟩ (by omega) (by omega) g6
  obtain ⟨y6, a8, e8, h8, g8, v8⟩ := l12_at (n := n) (by omega) hb ⟨#[]⟩ y1 0 y4 y2 y3 y5 (l := x6) (by omega) f6 (fun h => (v7 h).2) g7
  obtain ⟨m7, a9, e9, h9, g9, v9⟩ := Num_at (n := n) (by omega) hb (lo := 0) (hi := 4096) ⟨by omega, by omega⟩ (by omega) (by omega) g8
  obtain ⟨y7, a10, e10, h10, g10, v10⟩ := l18_at (n := n) (by omega) hb ⟨#[]⟩ y1 0 y4 y2 y3 y5 y6 (l := x7) (by omega) (fun c hc => ⟨f7 c hc, (i7 c hc).2.2.2.2.2⟩) (fun h => (v9 h).2) g9
  refine ⟨y1, y2, y3, y4, y5, y6, y7, a10, e10, ?_, g10, fun h => ?_⟩
  · simp only [code_object, h1, h2, h3, h4, h5, h6, h7, h8, h9, h10]
  · obtain ⟨q9, w7⟩ := v10 h
    obtain ⟨q8, -⟩ := v9 q9
    obtain ⟨q7, w6⟩ := v8 q8
    obtain ⟨q6, -⟩ := v7 q7
    obtain ⟨q5, w5⟩ := v6 q6
    obtain ⟨q4, -⟩ := v5 q5
    obtain ⟨q3, w4⟩ := v4 q4
    obtain ⟨q2, w3⟩ := v3 q3
    obtain ⟨q1, w2⟩ := v2 q2
    obtain ⟨-, w1⟩ := v1 q1
    exact ⟨w1, w2, w3, w4, w5, w6, w7⟩
theorem Read_at {n : Nat} (hn : 2000 ≤ n) {x1 : ByteArray} {x2 x3 : List Int} {x4 : Int} {x5 : List CellT} {x6 : List InstT} {x7 : List InstrT} (ok : ObjOk x1 x2 x3 x4 x5 x6 x7) (gd : ObjGood x2 x3 x4 x5 x7) (ft : Fit x1 x2 x3 x4 x5 x6 x7) (r : List Int) (hr : r.length < 1000) (hl : (objE x1 x2 x3 x4 x5 x6 x7).length ≤ 900000) :
    ∃ l, code_Read n (((), ()), (objE x1 x2 x3 x4 x5 x6 x7 ++ r, ())) = some ((((x1, (), (), x4, (), (), (), ()), (((objE x1 x2 x3 x4 x5 x6 x7).length : Int), ()), (ErrV.nil, ()), ()), ()), (l, x2, x3, x5, x6, x7, ())) := by
  obtain ⟨n, rfl⟩ : ∃ m, n = m + 1 + 1 := ⟨n - 2, by omega⟩
  generalize hE : objE x1 x2 x3 x4 x5 x6 x7 = E at hl ⊢
  have g : G (some E.length) (E ++ r) 0 .nil (objE x1 x2 x3 x4 x5 x6 x7 ++ []) := ⟨by omega, .inr ⟨rfl, by rw [hE]; simp, r, by rw [hE]; simp⟩⟩
  obtain ⟨y1, y2, y3, y4, y5, y6, y7, a, e, h, g2, hv⟩ := codeobj_at (n := n + 1) (by omega) (by simp; omega) ok gd ft g
  have h0 : e = .nil ∧ a = E.length := by
    rcases g2.2 with ⟨h, -⟩ | ⟨h, h3, -⟩
    · cases h
    · exact ⟨h, by simpa using h3⟩
  obtain ⟨rfl, rfl⟩ := h0
  obtain ⟨rfl, rfl, rfl, rfl, rfl, rfl, rfl⟩ := hv rfl
  refine ⟨E ++ r, ?_⟩
  have hN : wire_NewReader (n + 1) (((), ()), (E ++ r, ())) = some (((), ()), (E ++ r, (E ++ r, ((0 : Nat) : Int), ErrV.nil, ()), ())) := by
    simp only [wire_NewReader]
    rw [clone_at (by omega) _ (by simp; omega)]
    rfl
  simp only [code_Read, hN]
  rw [h]
  simp only []
  rw [Err_at (by omega)]
  rfl
theorem Read_cut {n : Nat} (hn : 2000 ≤ n) {x1 : ByteArray} {x2 x3 : List Int} {x4 : Int} {x5 : List CellT} {x6 : List InstT} {x7 : List InstrT} (ok : ObjOk x1 x2 x3 x4 x5 x6 x7) (gd : ObjGood x2 x3 x4 x5 x7) (ft : Fit x1 x2 x3 x4 x5 x6 x7) {k : Nat} (hk : k < (objE x1 x2 x3 x4 x5 x6 x7).length) (hl : (objE x1 x2 x3 x4 x5 x6 x7).length ≤ 900000) :
    ∃ e l, code_Read_2 n (((objE x1 x2 x3 x4 x5 x6 x7).take k, ()), ()) = some (((((⟨#[]⟩ : ByteArray), (), (), 0, (), (), (), ()), (0, ()), (e, ()), ()), ()), l) ∧ errNil e = false := by
  obtain ⟨n, rfl⟩ : ∃ m, n = m + 1 + 1 := ⟨n - 2, by omega⟩
  have g : G none ((objE x1 x2 x3 x4 x5 x6 x7).take k) 0 .nil (objE x1 x2 x3 x4 x5 x6 x7 ++ []) := ⟨by omega, .inr ⟨rfl, k, by simpa using hk, by simp⟩⟩
  obtain ⟨y1, y2, y3, y4, y5, y6, y7, a, e, h, g2, hv⟩ := codeobj_at (n := n + 1) (by omega) (by rw [List.length_take]; omega) ok gd ft g
  have h0 : errNil e = false := by
    rcases g2.2 with ⟨-, h⟩ | ⟨-, j, h, -⟩
    · exact h
    · simp at h
  have hN : wire_NewReader_2 (n + 1) (((objE x1 x2 x3 x4 x5 x6 x7).take k, ()), ()) = some (((), ()), (((objE x1 x2 x3 x4 x5 x6 x7).take k, ((0 : Nat) : Int), ErrV.nil, ()), ())) := by
    simp only [wire_NewReader_2]
    rw [clone_at (by omega) _ (by rw [List.length_take]; omega)]
    rfl
  refine ⟨e, ([], [], [], [], [], ()), ?_, h0⟩
  simp only [code_Read_2, hN]
  rw [h]
  simp only []
  rw [Err_at (by omega)]
  simp only []
  rw [if_pos (by rw [h0]; rfl)]
theorem Bytes_at {n : Nat} (l : List Int) (hn : 10 + l.length ≤ n) (hl : l.length < 100000000) : ref_Bytes n (((), ()), (l, ())) = some (((), ()), (l, l, ())) := by
  obtain ⟨n, rfl⟩ : ∃ m, n = m + 1 := ⟨n - 1, by omega⟩
  have h := for_all (F := ref_Bytes_l3 n) (len := l.length) (fun i => (((), (), (i : Int), ()), (l, l.take i, ()))) (r := some (.inl (((), ()), (l, l, ())))) (fun i k hi => by
    simp only [ref_Bytes_l3]
    rw [if_pos (decide_eq_true (show (i : Int) < (l.length : Int) by omega)), if_pos (show 0 ≤ (i : Int) ∧ (i : Int) < (l.length : Int) from ⟨by omega, by omega⟩), if_pos (by simp only [List.length_take, List.length_cons, List.length_nil]; omega), w64_up i (by omega), take_succ l i hi (Ty.dflt (.int .u8)), rdT_nat]) (fun k => by
    simp only [ref_Bytes_l3]
    rw [if_neg (by simp), List.take_length]) (k := n) (by omega)
  simp only [ref_Bytes]
  rw [if_pos ⟨by omega, by omega, by omega, by omega⟩]
  have e0 : ref_Bytes_l3 n n (((), (), 0, ()), (l, List.replicate (0 : Int).toNat 0, ())) = some (.inl (((), ()), (l, l, ()))) := h
  rw [e0]
theorem Number_at {n : Nat} (hn : 1 ≤ n) (x : Int) {m : Int} (hm : 0 < m) (hm2 : m < 1000000000) : world_Number n ((x, m, ()), ()) = some ((num x m, ()), ()) := by
  obtain ⟨n, rfl⟩ : ∃ m, n = m + 1 := ⟨n - 1, by omega⟩
  have := tmod_b x m hm
  simp only [world_Number]
  rw [if_neg (show ¬ (m = 0) by omega)]
  unfold num
  by_cases h : Int.tmod x m < 0
  · rw [if_pos (decide_eq_true h), if_pos h, w64_id (by omega) (by omega)]
  · rw [if_neg (by simpa using h), if_neg h]
abbrev tyO : Ty := .pair .str (.pair ty3 (.pair ty3 (.pair (.int .i64) (.pair ty9 (.pair ty10 ty11)))))
theorem good_obj {a : tyO.T} (h : Cm.Good Cm.P tyO a) :
    ObjGood a.2.1 a.2.2.1 a.2.2.2.1 a.2.2.2.2.1 a.2.2.2.2.2.2 := by
  obtain ⟨-, h2, h3, h4, h5, h6, h7⟩ := h
  refine ⟨fun z hz => lit_i64 (h2.2 z hz), fun z hz => lit_i64 (h3.2 z hz), lit_i64 h4, fun c hc => ?_, fun c hc => ?_⟩
  · obtain ⟨-, k1, k2⟩ := h5.2 c hc
    exact ⟨lit_i64 k1, lit_i64 k2⟩
  · obtain ⟨k1, k2, k3, k4, k5, k6⟩ := h7.2 c hc
    exact ⟨lit_i64 k1, lit_i64 k2, lit_i64 k3, lit_i64 k4, lit_i64 k5, lit_i64 k6⟩
theorem objE_len {x1 : ByteArray} {x2 x3 : List Int} {x4 : Int} {x5 : List CellT} {x6 : List InstT} {x7 : List InstrT} (ox : ObjOk x1 x2 x3 x4 x5 x6 x7) : (objE x1 x2 x3 x4 x5 x6 x7).length ≤ 900000 := by
  obtain ⟨n1, n2, n3, n5, n6, n7, c5, c6⟩ := ox
  have a1 := txt_len x1
  have a2 := nums_len x2
  have a3 := nums_len x3
  have s1 : ∀ z : Int, (nums [z]).length ≤ 10 := fun z => by have := nums_len [z]; simpa using this
  have s2 : ∀ y z : Int, (nums [y, z]).length ≤ 20 := fun y z => by have := nums_len [y, z]; simpa using this
  have q1 := s1 (x2.length : Int)
  have q2 := s1 (x3.length : Int)
  have q3 := s2 x4 (x5.length : Int)
  have q4 := s1 (x6.length : Int)
  have q5 := s1 (x7.length : Int)
  have f5 := flat_len cellE 330 x5 (fun c hc => cellE_len c (c5 c hc))
  have f6 := flat_len instE 630 x6 (fun c hc => instE_len c (c6 c hc))
  have f7 := flat_len instrE 60 x7 (fun c hc => instrE_len c)
  simp only [objE, List.length_append]
  omega
theorem objE_pos (x1 : ByteArray) (x2 x3 : List Int) (x4 : Int) (x5 : List CellT) (x6 : List InstT) (x7 : List InstrT) : 0 < (objE x1 x2 x3 x4 x5 x6 x7).length := by
  have := (enc_len x1.size).1
  simp only [objE, txt, List.length_append]
  omega
theorem CodeBack : law21_CodeBack.Pure := by
  intro o behind cut go gb gc
  refine ⟨1000000 + 1, ?_⟩
  have go := good_obj go
  obtain ⟨x1, x2, x3, x4, x5, x6, x7⟩ := o
  simp only at go ⊢
  generalize hn : (1000000 : Nat) = n
  have hn : 1000000 ≤ n := by omega
  obtain ⟨p, hp, op⟩ := object_at (n := n) (by omega) x1 x2 x3 x4 x5 x6 x7
  simp only [law21_CodeBack, first_at (n := n) (by omega), hp]
  rw [if_neg (by simp)]
  cases p with
  | false => rfl
  | true =>
    rw [if_neg (by simp)]
    by_cases hbl : (behind.length : Int) > 60
    · rw [if_pos (decide_eq_true hbl)]
    · rw [if_neg (by simpa using hbl), if_neg (by simp)]
      have op := op rfl
      obtain ⟨e, X, hX, eX, eY⟩ := bytes_at (n := n) (by omega) x1 x2 x3 x4 x5 x6 x7 op go
      rw [hX]
      simp only []
      cases he : errNil e with
      | false => 
        rw [eY he]
        rfl
      | true =>
        obtain ⟨rfl, ft⟩ := eX he
        have hlen := objE_len op
        have hpos := objE_pos x1 x2 x3 x4 x5 x6 x7
        obtain ⟨l, hR⟩ := Read_at (n := n) (by omega) op go ft behind (by omega) hlen
        obtain ⟨i, hi, hnum⟩ := num_nat cut (m := ((objE x1 x2 x3 x4 x5 x6 x7).length : Int)) (by omega)
        obtain ⟨e2, l2, hC, hC2⟩ := Read_cut (n := n) (by omega) op go ft (k := i) (by omega) hlen
        rw [if_neg (by simp), Bytes_at _ (by omega) (by omega)]
        simp only []
        rw [if_pos (by omega), hR]
        simp only []
        rw [Number_at (by omega) cut (by omega) (by omega), hnum]
        simp only []
        rw [if_pos (show 0 ≤ (i : Int) ∧ (i : Int) ≤ ((objE x1 x2 x3 x4 x5 x6 x7).length : Int) from ⟨by omega, by omega⟩)]
        have ec : cutL (objE x1 x2 x3 x4 x5 x6 x7) 0 (i : Int) = (objE x1 x2 x3 x4 x5 x6 x7).take i := by simp [cutL]
        rw [ec, hC]
        simp only []
        rw [if_pos (by decide), if_pos (by simp), SameObject_at (by omega) x1 x2 x3 x4 x5 x6 x7 x1 x2 x3 x4 x5 x6 x7 op]
        simp only []
        rw [if_pos (by simp), hC2]
        rfl
end Go.Proofs.YtgbpbmdhphfdgaaDoor.Pure
