/- What code lays, in plain words: an object's bytes. By this session. -/
import Derived.Test.YthllmcijlhlimaaGreatDoorCodeLoadsC
namespace Go.Proofs.YthllmcijlhlimaaGreatDoor.Pure
open Go Go.Lib Go.Proofs.YthllmcijlhlimaaGreatDoor.Cm
set_option linter.unusedVariables false
set_option linter.unusedSimpArgs false
abbrev InstrFit (c : InstrT) : Prop := (1 ≤ c.1 ∧ c.1 ≤ 12) ∧ (-1 ≤ c.2.1 ∧ c.2.1 ≤ 1048576) ∧ (-1 ≤ c.2.2.1 ∧ c.2.2.1 ≤ 1048576) ∧ (-1 ≤ c.2.2.2.1 ∧ c.2.2.2.1 ≤ 1048576) ∧ (-1 ≤ c.2.2.2.2.1 ∧ c.2.2.2.2.1 ≤ 1048576)
structure Fit (x1 : ByteArray) (x2 x3 : List Int) (x4 : Int) (x5 : List CellT) (x6 : List InstT) (x7 : List InstrT) : Prop where
  f1 : x1.size ≤ 200
  f2 : x2.length ≤ 64
  f3 : x3.length ≤ 64
  t2 : ∀ c ∈ x2, c = 1 ∨ c = 2
  t3 : ∀ c ∈ x3, c = 1 ∨ c = 2
  f4 : 0 ≤ x4 ∧ x4 ≤ 1024
  f5 : ∀ c ∈ x5, c.1.size ≤ 200 ∧ (c.2.1 = 1 ∨ c.2.1 = 2)
  f6 : ∀ c ∈ x6, c.1.size ≤ 200 ∧ c.2.size ≤ 200
  f7 : ∀ c ∈ x7, InstrFit c
theorem fits_at {n : Nat} (hn : 3000 ≤ n) (x1 : ByteArray) (x2 x3 : List Int) (x4 : Int) (x5 : List CellT) (x6 : List InstT) (x7 : List InstrT) (ok : ObjOk x1 x2 x3 x4 x5 x6 x7) :
    ∃ e, code_fits n (((x1, x2, x3, x4, x5, x6, x7, ()), ()), ()) = some ((e, ()), ()) ∧ (errNil e = true → Fit x1 x2 x3 x4 x5 x6 x7) := by
  obtain ⟨n, rfl⟩ : ∃ k, n = k + 1 := ⟨n - 1, by omega⟩
  obtain ⟨n1, n2, n3, n5, n6, n7, -, -⟩ := ok
  have l3 := for_all (F := code_fits_l3 n) (len := x5.length) (fun i => (((), (), x5, (x5.length : Int), (i : Int), ()), ((x1, x2, x3, x4, x5, x6, x7, ()), [x1] ++ (x5.take i).map (·.1), ()))) (r := some (.inl (((), (), ()), ((x1, x2, x3, x4, x5, x6, x7, ()), [x1] ++ x5.map (·.1), ())))) (fun i k hi => by
      simp only [code_fits_l3]
      rw [if_pos (decide_eq_true (show (i : Int) < (x5.length : Int) by omega)), if_pos (show 0 ≤ (i : Int) ∧ (i : Int) < (x5.length : Int) from ⟨by omega, by omega⟩), if_pos (by simp only [List.length_append, List.length_cons, List.length_nil, List.length_map, List.length_take]; omega), w64_up i (by omega), take_succ x5 i hi (Ty.dflt ty7), List.map_append, rdT_nat, List.append_assoc]
      rfl) (fun k => by
      simp only [code_fits_l3]
      rw [if_neg (by simp), List.take_length]) (k := n) (by omega)
  have l8 := for_all (F := code_fits_l8 n) (len := x6.length) (fun i => (((), (), x6, (x6.length : Int), (i : Int), ()), ((x1, x2, x3, x4, x5, x6, x7, ()), ([x1] ++ x5.map (·.1)) ++ (x6.take i).flatMap (fun c => [c.1, c.2]), ()))) (r := some (.inl (((), (), ()), ((x1, x2, x3, x4, x5, x6, x7, ()), ([x1] ++ x5.map (·.1)) ++ x6.flatMap (fun c => [c.1, c.2]), ())))) (fun i k hi => by
      have hfl : ((x6.take i).flatMap (fun c => [c.1, c.2])).length ≤ 2 * x6.length := by
        have : ∀ l : List InstT, (l.flatMap (fun c => [c.1, c.2])).length = 2 * l.length := fun l => by
          induction l with
          | nil => rfl
          | cons a l ih => simp only [List.flatMap_cons, List.length_append, List.length_cons, List.length_nil] at *; omega
        rw [this]
        have : (x6.take i).length ≤ x6.length := by simp; omega
        omega
      simp only [code_fits_l8]
      rw [if_pos (decide_eq_true (show (i : Int) < (x6.length : Int) by omega)), if_pos (show 0 ≤ (i : Int) ∧ (i : Int) < (x6.length : Int) from ⟨by omega, by omega⟩), if_pos (by simp only [List.length_append, List.length_cons, List.length_nil, List.length_map]; omega), w64_up i (by omega), take_succ x6 i hi (Ty.dflt ty11), List.flatMap_append, rdT_nat, List.append_assoc ([x1] ++ _)]
      rfl) (fun k => by
      simp only [code_fits_l8]
      rw [if_neg (by simp), List.take_length]) (k := n) (by omega)
  have hL : (([x1] ++ x5.map (·.1)) ++ x6.flatMap (fun c => [c.1, c.2])).length ≤ 1 + x5.length + 2 * x6.length := by
    have : ∀ l : List InstT, (l.flatMap (fun c => [c.1, c.2])).length = 2 * l.length := fun l => by
      induction l with
      | nil => rfl
      | cons a l ih => simp only [List.flatMap_cons, List.length_append, List.length_cons, List.length_nil] at *; omega
    simp only [List.length_append, List.length_cons, List.length_nil, List.length_map, this]
    omega
  obtain ⟨b, hb, hN⟩ := cont_str (n := n) (([x1] ++ x5.map (·.1)) ++ x6.flatMap (fun c => [c.1, c.2])) (by omega) (by omega)
  obtain ⟨lc, hlc⟩ := concat_at (n := n) (by omega) x2 x3 (by omega) (by omega)
  have l18 := for_all (F := code_fits_l18 n) (len := x5.length) (fun i => (((), (), x5, (x5.length : Int), (i : Int), ()), ((x1, x2, x3, x4, x5, x6, x7, ()), (x2 ++ x3) ++ (x5.take i).map (·.2.1), ()))) (r := some (.inl (((), (), ()), ((x1, x2, x3, x4, x5, x6, x7, ()), (x2 ++ x3) ++ x5.map (·.2.1), ())))) (fun i k hi => by
      simp only [code_fits_l18]
      rw [if_pos (decide_eq_true (show (i : Int) < (x5.length : Int) by omega)), if_pos (show 0 ≤ (i : Int) ∧ (i : Int) < (x5.length : Int) from ⟨by omega, by omega⟩), if_pos (by simp only [List.length_append, List.length_cons, List.length_nil, List.length_map, List.length_take]; omega), w64_up i (by omega), take_succ x5 i hi (Ty.dflt ty7), List.map_append, rdT_nat, List.append_assoc (x2 ++ x3)]
      rfl) (fun k => by
      simp only [code_fits_l18]
      rw [if_neg (by simp), List.take_length]) (k := n) (by omega)
  obtain ⟨b2, hb2, hT⟩ := cont_int (n := n) ((x2 ++ x3) ++ x5.map (·.2.1)) (by simp only [List.length_append, List.length_map]; omega) (by simp only [List.length_append, List.length_map]; omega)
  have l25 := for_inv (F := code_fits_l25 n) (len := x7.length) (st := fun i => ((x7, (x7.length : Int), (i : Int), ()), ())) (fun i => ∀ c ∈ x7.take i, InstrFit c) (fun r => (r = some (.inl ((), ())) ∧ ∀ c ∈ x7, InstrFit c) ∨ ∃ e, errNil e = false ∧ r = some (.inr (.inl ((e, ()), ())))) (by simp) (fun i k hi hI => by
      simp only [code_fits_l25, rdT_nat]
      rw [if_pos (decide_eq_true (show (i : Int) < (x7.length : Int) by omega)), if_pos (show 0 ≤ (i : Int) ∧ (i : Int) < (x7.length : Int) from ⟨by omega, by omega⟩)]
      split
      · exact .inr (.inr ⟨_, rfl, rfl⟩)
      rename_i h1
      split
      · exact .inr (.inr ⟨_, rfl, rfl⟩)
      rename_i h2
      have h1 : ¬ ((x7.getD i (Ty.dflt ty13)).1 : Int) < 1 := fun h => h1 (decide_eq_true h)
      have h2 : ¬ ((x7.getD i (Ty.dflt ty13)).1 : Int) > 12 := fun h => h2 (decide_eq_true h)
      obtain ⟨b, hb, hb2⟩ := cont_int2 (n := n) [(x7.getD i (Ty.dflt ty13)).2.1, (x7.getD i (Ty.dflt ty13)).2.2.1, (x7.getD i (Ty.dflt ty13)).2.2.2.1, (x7.getD i (Ty.dflt ty13)).2.2.2.2.1] (by simp; omega) (by simp)
      rw [hb]
      cases b with
      | true => exact .inr (.inr ⟨_, rfl, rfl⟩)
      | false =>
        refine .inl ⟨?_, by rw [w64_up i (by omega)]; rfl⟩
        have hb2 := hb2 rfl
        intro c hc
        rw [take_succ x7 i hi (Ty.dflt ty13)] at hc
        rcases List.mem_append.1 hc with hc | hc
        · exact hI c hc
        · rw [List.mem_singleton.1 hc]
          exact ⟨⟨by omega, by omega⟩, hb2 _ (by simp), hb2 _ (by simp), hb2 _ (by simp), hb2 _ (by simp)⟩) (fun k hI => .inl (by
      rw [List.take_length] at hI
      refine ⟨?_, hI⟩
      simp only [code_fits_l25]
      rw [if_neg (by simp)])) n (by omega)
  simp only [List.take_zero, List.map_nil, List.flatMap_nil, List.append_nil] at l3 l8 l18
  simp only [code_fits]
  rw [show (0 : Int) = ((0 : Nat) : Int) from rfl, l3]
  simp only []
  rw [l8]
  simp only []
  rw [hb]
  simp only []
  cases b with
  | true => exact ⟨_, rfl, fun h => by cases h⟩
  | false =>
    have hN := hN rfl
    rw [if_neg (by simp)]
    by_cases g2 : (x2.length : Int) > 64
    · rw [if_pos (decide_eq_true g2)]; exact ⟨_, rfl, fun h => by cases h⟩
    rw [if_neg (by simpa using g2)]
    by_cases g3 : (x3.length : Int) > 64
    · rw [if_pos (decide_eq_true g3)]; exact ⟨_, rfl, fun h => by cases h⟩
    rw [if_neg (by simpa using g3)]
    rw [if_neg (by simp; omega), if_neg (by simp; omega), if_neg (by simp; omega), hlc]
    simp only []
    rw [l18]
    simp only []
    by_cases g4 : x4 < ((0 : Nat) : Int)
    · rw [if_pos (decide_eq_true g4)]; exact ⟨_, rfl, fun h => by cases h⟩
    rw [if_neg (by simpa using g4)]
    by_cases g5 : x4 > 1024
    · rw [if_pos (decide_eq_true g5)]; exact ⟨_, rfl, fun h => by cases h⟩
    rw [if_neg (by simpa using g5)]
    rw [hb2]
    simp only []
    cases b2 with
    | true => exact ⟨_, rfl, fun h => by cases h⟩
    | false =>
      have hT := hT rfl
      rw [if_neg (by simp)]
      rcases l25 with ⟨l25, h7⟩ | ⟨e, hne, l25⟩
      · rw [l25]
        refine ⟨_, rfl, fun _ => ⟨hN _ (by simp), by omega, by omega, fun c hc => hT c (by simp [hc]), fun c hc => hT c (by simp [hc]), ⟨by omega, by omega⟩, fun c hc => ⟨hN _ ?_, hT _ ?_⟩, fun c hc => ⟨hN _ ?_, hN _ ?_⟩, h7⟩⟩
        · exact List.mem_append_left _ (List.mem_append_right _ (List.mem_map.2 ⟨c, hc, rfl⟩))
        · exact List.mem_append_right _ (List.mem_map.2 ⟨c, hc, rfl⟩)
        · exact List.mem_append_right _ (List.mem_flatMap.2 ⟨c, hc, by simp⟩)
        · exact List.mem_append_right _ (List.mem_flatMap.2 ⟨c, hc, by simp⟩)
      · rw [l25]
        exact ⟨_, rfl, fun h => by rw [hne] at h; cases h⟩
theorem bytes_at {n : Nat} (hn : 5000 ≤ n) (x1 : ByteArray) (x2 x3 : List Int) (x4 : Int) (x5 : List CellT) (x6 : List InstT) (x7 : List InstrT) (ok : ObjOk x1 x2 x3 x4 x5 x6 x7) (gd : ObjGood x2 x3 x4 x5 x7) :
    ∃ e l, code_Bytes n (((x1, x2, x3, x4, x5, x6, x7, ()), ()), ()) = some (((((), ()), (e, ()), ()), ()), (l, ())) ∧ (errNil e = true → l = objE x1 x2 x3 x4 x5 x6 x7 ∧ Fit x1 x2 x3 x4 x5 x6 x7) ∧ (errNil e = false → l = []) := by
  obtain ⟨n, rfl⟩ : ∃ k, n = k + 1 := ⟨n - 1, by omega⟩
  obtain ⟨e, he, hF⟩ := fits_at (n := n) (by omega) x1 x2 x3 x4 x5 x6 x7 ok
  obtain ⟨n1, n2, n3, n5, n6, n7, c5, c6⟩ := ok
  obtain ⟨i2, i3, i4, i5, i7⟩ := gd
  simp only [code_Bytes, he]
  cases hne : errNil e with
  | false => exact ⟨_, _, rfl, ⟨(fun h => by rw [h] at hne; cases hne), fun _ => rfl⟩⟩
  | true =>
    refine ⟨.nil, objE x1 x2 x3 x4 x5 x6 x7, ?_, ⟨fun _ => ⟨rfl, hF hne⟩, fun h => by cases h⟩⟩
    rw [if_neg (by simp)]
    have one : ∀ (m : Nat), m < 100000 → I64s [(m : Int)] := fun m hm z hz => by rw [List.mem_singleton.1 hz]; exact ⟨by omega, by omega⟩
    have a1 := txt_len x1
    have a2 := nums_len x2
    have a3 := nums_len x3
    have s1 : ∀ z : Int, (nums [z]).length ≤ 10 := fun z => by have := nums_len [z]; simpa using this
    have s2 : ∀ y z : Int, (nums [y, z]).length ≤ 20 := fun y z => by have := nums_len [y, z]; simpa using this
    have q1 := s1 (x2.length : Int)
    have q2 := s1 (x3.length : Int)
    have q3 := s2 x4 (x5.length : Int)
    have q4 := s1 (x6.length : Int)
    have q5 := s1 (x7.length : Int)
    have f5 := flat_len cellE 330 x5 (fun c hc => cellE_len c (c5 c hc))
    have f6 := flat_len instE 630 x6 (fun c hc => instE_len c (c6 c hc))
    have f7 := flat_len instrE 60 x7 (fun c hc => instrE_len c)
    have hcell : ∀ A : List Int, A.length < 100000 → code_Bytes_l9 n n (((), (), x5, (x5.length : Int), 0, ()), ((x1, x2, x3, x4, x5, x6, x7, ()), A, ())) = some (.inl (((), (), ()), ((x1, x2, x3, x4, x5, x6, x7, ()), A ++ x5.flatMap cellE, ()))) := by
      intro A hA
      have h := for_all (F := code_Bytes_l9 n) (len := x5.length) (fun i => (((), (), x5, (x5.length : Int), (i : Int), ()), ((x1, x2, x3, x4, x5, x6, x7, ()), A ++ (x5.take i).flatMap cellE, ()))) (r := some (.inl (((), (), ()), ((x1, x2, x3, x4, x5, x6, x7, ()), A ++ x5.flatMap cellE, ())))) (fun i k hi => by
        have hm := getD_mem x5 i hi (Ty.dflt ty7)
        have ft := flat_take_len cellE 330 x5 (fun c hc => cellE_len c (c5 c hc)) i
        have hc := c5 _ hm
        have t1 := txt_len (x5.getD i (Ty.dflt ty7)).1
        have t2 := s1 (x5.getD i (Ty.dflt ty7)).2.1
        have t3 := (enc_len (x5.getD i (Ty.dflt ty7)).2.2).2
        simp only [code_Bytes_l9, rdT_nat]
        rw [if_pos (decide_eq_true (show (i : Int) < (x5.length : Int) by omega)), if_pos (show 0 ≤ (i : Int) ∧ (i : Int) < (x5.length : Int) from ⟨by omega, by omega⟩)]
        rw [text_at (by omega) (x5.getD i (Ty.dflt ty7)).1 _ (by simp only [List.length_append]; omega)]
        simp only []
        rw [cput_at [(x5.getD i (Ty.dflt ty7)).2.1] (by simp; omega) (fun z hz => by rw [List.mem_singleton.1 hz]; exact (i5 _ hm).1) _ (by simp only [List.length_append, List.length_cons, List.length_nil]; omega)]
        simp only []
        rw [Put_at (by omega) (i5 _ hm).2 [] (by simp)]
        simp only [List.nil_append]
        rw [if_pos (by simp only [List.length_append]; omega), w64_up i (by omega), flat_take cellE x5 i hi (Ty.dflt ty7)]
        simp only [cellE, List.append_assoc]) (fun k => by
        simp only [code_Bytes_l9]
        rw [if_neg (by simp), List.take_length]) (k := n) (by omega)
      simpa using h
    have hinst : ∀ A : List Int, A.length < 100000 → code_Bytes_l16 n n (((), (), x6, (x6.length : Int), 0, ()), ((x1, x2, x3, x4, x5, x6, x7, ()), A, ())) = some (.inl (((), (), ()), ((x1, x2, x3, x4, x5, x6, x7, ()), A ++ x6.flatMap instE, ()))) := by
      intro A hA
      have h := for_all (F := code_Bytes_l16 n) (len := x6.length) (fun i => (((), (), x6, (x6.length : Int), (i : Int), ()), ((x1, x2, x3, x4, x5, x6, x7, ()), A ++ (x6.take i).flatMap instE, ()))) (r := some (.inl (((), (), ()), ((x1, x2, x3, x4, x5, x6, x7, ()), A ++ x6.flatMap instE, ())))) (fun i k hi => by
        have hm := getD_mem x6 i hi (Ty.dflt ty11)
        have ft := flat_take_len instE 630 x6 (fun c hc => instE_len c (c6 c hc)) i
        have hc := c6 _ hm
        have t1 := txt_len (x6.getD i (Ty.dflt ty11)).1
        simp only [code_Bytes_l16, rdT_nat]
        rw [if_pos (decide_eq_true (show (i : Int) < (x6.length : Int) by omega)), if_pos (show 0 ≤ (i : Int) ∧ (i : Int) < (x6.length : Int) from ⟨by omega, by omega⟩)]
        rw [text_at (by omega) (x6.getD i (Ty.dflt ty11)).1 _ (by simp only [List.length_append]; omega)]
        simp only []
        rw [text_at (by omega) (x6.getD i (Ty.dflt ty11)).2 _ (by simp only [List.length_append]; omega)]
        simp only []
        rw [w64_up i (by omega), flat_take instE x6 i hi (Ty.dflt ty11)]
        simp only [instE, List.append_assoc]) (fun k => by
        simp only [code_Bytes_l16]
        rw [if_neg (by simp), List.take_length]) (k := n) (by omega)
      simpa using h
    have hinstr : ∀ A : List Int, A.length < 100000 → code_Bytes_l22 n n (((), x7, (x7.length : Int), 0, ()), (A, ())) = some (.inl (((), ()), (A ++ x7.flatMap instrE, ()))) := by
      intro A hA
      have h := for_all (F := code_Bytes_l22 n) (len := x7.length) (fun i => (((), x7, (x7.length : Int), (i : Int), ()), (A ++ (x7.take i).flatMap instrE, ()))) (r := some (.inl (((), ()), (A ++ x7.flatMap instrE, ())))) (fun i k hi => by
        have hm := getD_mem x7 i hi (Ty.dflt ty13)
        have ft := flat_take_len instrE 60 x7 (fun c hc => instrE_len c) i
        obtain ⟨g1, g2, g3, g4, g5, g6⟩ := i7 _ hm
        have t3 := (enc_len (x7.getD i (Ty.dflt ty13)).2.2.2.2.2).2
        have t4 := nums_len [(x7.getD i (Ty.dflt ty13)).1, (x7.getD i (Ty.dflt ty13)).2.1, (x7.getD i (Ty.dflt ty13)).2.2.1, (x7.getD i (Ty.dflt ty13)).2.2.2.1, (x7.getD i (Ty.dflt ty13)).2.2.2.2.1]
        simp only [List.length_cons, List.length_nil] at t4
        simp only [code_Bytes_l22, rdT_nat]
        rw [if_pos (decide_eq_true (show (i : Int) < (x7.length : Int) by omega)), if_pos (show 0 ≤ (i : Int) ∧ (i : Int) < (x7.length : Int) from ⟨by omega, by omega⟩)]
        rw [cput2_at [(x7.getD i (Ty.dflt ty13)).1, (x7.getD i (Ty.dflt ty13)).2.1, (x7.getD i (Ty.dflt ty13)).2.2.1, (x7.getD i (Ty.dflt ty13)).2.2.2.1, (x7.getD i (Ty.dflt ty13)).2.2.2.2.1] (by simp; omega) (fun z hz => by
          simp only [List.mem_cons, List.not_mem_nil, or_false] at hz
          rcases hz with rfl | rfl | rfl | rfl | rfl <;> assumption) _ (by simp only [List.length_append, List.length_cons, List.length_nil]; omega)]
        simp only []
        rw [Put_at (by omega) g6 [] (by simp)]
        simp only [List.nil_append]
        rw [if_pos (by simp only [List.length_append]; omega), w64_up i (by omega), flat_take instrE x7 i hi (Ty.dflt ty13)]
        simp only [instrE, List.append_assoc]) (fun k => by
        simp only [code_Bytes_l22]
        rw [if_neg (by simp), List.take_length]) (k := n) (by omega)
      simpa using h
    rw [text_at (by omega) x1 [] (by simp; omega)]
    simp only [List.nil_append]
    rw [cput_at [(x2.length : Int)] (by simp; omega) (one _ (by omega)) _ (by simp only [List.length_append, List.length_cons, List.length_nil]; omega)]
    simp only []
    rw [cput_at x2 (by omega) i2 _ (by simp only [List.length_append]; omega)]
    simp only []
    rw [cput_at [(x3.length : Int)] (by simp; omega) (one _ (by omega)) _ (by simp only [List.length_append, List.length_cons, List.length_nil]; omega)]
    simp only []
    rw [cput_at x3 (by omega) i3 _ (by simp only [List.length_append]; omega)]
    simp only []
    rw [cput2_at [x4, (x5.length : Int)] (by simp; omega) (fun z hz => by
          simp only [List.mem_cons, List.not_mem_nil, or_false] at hz
          rcases hz with rfl | rfl
          · exact i4
          · exact ⟨by omega, by omega⟩) _ (by simp only [List.length_append, List.length_cons, List.length_nil]; omega)]
    simp only []
    rw [hcell _ (by simp only [List.length_append]; omega)]
    simp only []
    rw [cput2_at [(x6.length : Int)] (by simp; omega) (one _ (by omega)) _ (by simp only [List.length_append, List.length_cons, List.length_nil]; omega)]
    simp only []
    rw [hinst _ (by simp only [List.length_append]; omega)]
    simp only []
    rw [cput2_at [(x7.length : Int)] (by simp; omega) (one _ (by omega)) _ (by simp only [List.length_append, List.length_cons, List.length_nil]; omega)]
    simp only []
    rw [hinstr _ (by simp only [List.length_append]; omega)]
    simp only [objE, List.append_assoc]
end Go.Proofs.YthllmcijlhlimaaGreatDoor.Pure
