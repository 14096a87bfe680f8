/- An object is read, whole or cut off. By this session. -/
import Derived.Test.YthllmcijlhlimaaGreatDoorCodeLoadsG
namespace Go.Proofs.YthllmcijlhlimaaGreatDoor.Pure
open Go Go.Lib Go.Proofs.YthllmcijlhlimaaGreatDoor.Cm
set_option linter.unusedVariables false
set_option linter.unusedSimpArgs false
theorem objE_eq (x1 : ByteArray) (x2 x3 : List Int) (x4 : Int) (x5 : List CellT) (x6 : List InstT) (x7 : List InstrT) (B : List Int) : objE x1 x2 x3 x4 x5 x6 x7 ++ B =
    txt x1 ++ (enc (x2.length : Int) ++ (nums x2 ++ (enc (x3.length : Int) ++ (nums x3 ++ (enc x4 ++ (enc (x5.length : Int) ++ (x5.flatMap cellE ++ (enc (x6.length : Int) ++ (x6.flatMap instE ++ (enc (x7.length : Int) ++ (x7.flatMap instrE ++ B))))))))))) := by
  simp only [objE, nums_one, nums_two, List.append_assoc]
/-- An object, whole or cut off. -/
theorem codeobj_at {n : Nat} (hn : 1000 ≤ n) {t : Option Nat} {b : List Int} (hb : b.length < 1000000000) {a : Nat} {e : ErrV} {B : List Int} {x1 : ByteArray} {x2 x3 : List Int} {x4 : Int} {x5 : List CellT} {x6 : List InstT} {x7 : List InstrT}
    (ok : ObjOk x1 x2 x3 x4 x5 x6 x7) (gd : ObjGood x2 x3 x4 x5 x7) (ft : Fit x1 x2 x3 x4 x5 x6 x7) (g : G t b a e (objE x1 x2 x3 x4 x5 x6 x7 ++ B)) :
    ∃ y1 y2 y3 y4 y5 y6 y7 a' e', code_object n (((), ()), ((b, (a : Int), e, ()), ())) = some (((y1, (), (), y4, (), (), (), ()), ()), ((b, ((a' : Nat) : Int), e', ()), y2, y3, y5, y6, y7, ())) ∧ G t b a' e' B ∧ (e' = .nil → y1 = x1 ∧ y2 = x2 ∧ y3 = x3 ∧ y4 = x4 ∧ y5 = x5 ∧ y6 = x6 ∧ y7 = x7) := by
  obtain ⟨n, rfl⟩ : ∃ m, n = m + 1 := ⟨n - 1, by omega⟩
  obtain ⟨n1, n2, n3, n5, n6, n7, -, -⟩ := ok
  obtain ⟨i2, i3, i4, i5, i7⟩ := gd
  obtain ⟨f1, f2, f3, t2, t3, f4, f5, f6, f7⟩ := ft
  rw [objE_eq] at g
  obtain ⟨y1, a1, e1, h1, g1, v1⟩ := Text_at (n := n) (by omega) hb (most := 200) (by omega) (by omega) g
  obtain ⟨y2, a2, e2, h2, g2, v2⟩ := types_at (n := n) (by omega) hb f2 t2 g1
  obtain ⟨y3, a3, e3, h3, g3, v3⟩ := types_at (n := n) (by omega) hb f3 t3 g2
  obtain ⟨y4, a4, e4, h4, g4, v4⟩ := Num_at (n := n) (by omega) hb (lo := 0) (hi := 1024) i4 f4.1 f4.2 g3
  obtain ⟨m5, a5, e5, h5, g5, v5⟩ := Num_at (n := n) (by omega) hb (lo := 0) (hi := 1024) ⟨by omega, by omega⟩ (by omega) (by omega) g4
  obtain ⟨y5, a6, e6, h6, g6, v6⟩ := l5_at (n := n) (by omega) hb ⟨#[]⟩ y1 0 y4 y2 y3 (l := x5) (by omega) (fun c hc => ⟨(f5 c hc).1, (f5 c hc).2, (i5 c hc).2⟩) (fun h => (v5 h).2) g5
  obtain ⟨m6, a7, e7, h7, g7, v7⟩ := Num_at (n := n) (by omega) hb (lo := 0) (hi := 256) ⟨by omega, by omega⟩ (by omega) (by omega) g6
  obtain ⟨y6, a8, e8, h8, g8, v8⟩ := l12_at (n := n) (by omega) hb ⟨#[]⟩ y1 0 y4 y2 y3 y5 (l := x6) (by omega) f6 (fun h => (v7 h).2) g7
  obtain ⟨m7, a9, e9, h9, g9, v9⟩ := Num_at (n := n) (by omega) hb (lo := 0) (hi := 4096) ⟨by omega, by omega⟩ (by omega) (by omega) g8
  obtain ⟨y7, a10, e10, h10, g10, v10⟩ := l18_at (n := n) (by omega) hb ⟨#[]⟩ y1 0 y4 y2 y3 y5 y6 (l := x7) (by omega) (fun c hc => ⟨f7 c hc, (i7 c hc).2.2.2.2.2⟩) (fun h => (v9 h).2) g9
  refine ⟨y1, y2, y3, y4, y5, y6, y7, a10, e10, ?_, g10, fun h => ?_⟩
  · simp only [code_object, h1, h2, h3, h4, h5, h6, h7, h8, h9, h10]
  · obtain ⟨q9, w7⟩ := v10 h
    obtain ⟨q8, -⟩ := v9 q9
    obtain ⟨q7, w6⟩ := v8 q8
    obtain ⟨q6, -⟩ := v7 q7
    obtain ⟨q5, w5⟩ := v6 q6
    obtain ⟨q4, -⟩ := v5 q5
    obtain ⟨q3, w4⟩ := v4 q4
    obtain ⟨q2, w3⟩ := v3 q3
    obtain ⟨q1, w2⟩ := v2 q2
    obtain ⟨-, w1⟩ := v1 q1
    exact ⟨w1, w2, w3, w4, w5, w6, w7⟩
theorem Number_at {n : Nat} (hn : 1 ≤ n) (x : Int) {m : Int} (hm : 0 < m) (hm2 : m < 1000000000) : world_Number n ((x, m, ()), ()) = some ((num x m, ()), ()) := by
  obtain ⟨n, rfl⟩ : ∃ m, n = m + 1 := ⟨n - 1, by omega⟩
  have := tmod_b x m hm
  simp only [world_Number]
  rw [if_neg (show ¬ (m = 0) by omega)]
  unfold num
  by_cases h : Int.tmod x m < 0
  · rw [if_pos (decide_eq_true h), if_pos h, w64_id (by omega) (by omega)]
  · rw [if_neg (by simpa using h), if_neg h]
theorem objE_len {x1 : ByteArray} {x2 x3 : List Int} {x4 : Int} {x5 : List CellT} {x6 : List InstT} {x7 : List InstrT} (ox : ObjOk x1 x2 x3 x4 x5 x6 x7) : (objE x1 x2 x3 x4 x5 x6 x7).length ≤ 900000 := by
  obtain ⟨n1, n2, n3, n5, n6, n7, c5, c6⟩ := ox
  have a1 := txt_len x1
  have a2 := nums_len x2
  have a3 := nums_len x3
  have s1 : ∀ z : Int, (nums [z]).length ≤ 10 := fun z => by have := nums_len [z]; simpa using this
  have s2 : ∀ y z : Int, (nums [y, z]).length ≤ 20 := fun y z => by have := nums_len [y, z]; simpa using this
  have q1 := s1 (x2.length : Int)
  have q2 := s1 (x3.length : Int)
  have q3 := s2 x4 (x5.length : Int)
  have q4 := s1 (x6.length : Int)
  have q5 := s1 (x7.length : Int)
  have f5 := flat_len cellE 330 x5 (fun c hc => cellE_len c (c5 c hc))
  have f6 := flat_len instE 630 x6 (fun c hc => instE_len c (c6 c hc))
  have f7 := flat_len instrE 60 x7 (fun c hc => instrE_len c)
  simp only [objE, List.length_append]
  omega
theorem objE_pos (x1 : ByteArray) (x2 x3 : List Int) (x4 : Int) (x5 : List CellT) (x6 : List InstT) (x7 : List InstrT) : 0 < (objE x1 x2 x3 x4 x5 x6 x7).length := by
  have := (enc_len x1.size).1
  simp only [objE, txt, List.length_append]
  omega
end Go.Proofs.YthllmcijlhlimaaGreatDoor.Pure
