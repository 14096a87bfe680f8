/- What code lays, in plain words: objects; what is unlike lays unlike bytes. By this session. -/
import Derived.Test.YthllmcijlhlimaaGreatDoorCodeLoadsA
namespace Go.Proofs.YthllmcijlhlimaaGreatDoor.Pure
open Go Go.Lib Go.Proofs.YthllmcijlhlimaaGreatDoor.Cm
set_option linter.unusedVariables false
set_option linter.unusedSimpArgs false
abbrev CellT := ByteArray × Int × Int
abbrev InstT := ByteArray × ByteArray
abbrev InstrT := Int × Int × Int × Int × Int × Int
def cellE (c : CellT) : List Int := txt c.1 ++ (nums [c.2.1] ++ enc c.2.2)
def instE (c : InstT) : List Int := txt c.1 ++ txt c.2
def instrE (c : InstrT) : List Int := nums [c.1, c.2.1, c.2.2.1, c.2.2.2.1, c.2.2.2.2.1] ++ enc c.2.2.2.2.2
structure ObjOk (x1 : ByteArray) (x2 x3 : List Int) (x4 : Int) (x5 : List CellT) (x6 : List InstT) (x7 : List InstrT) : Prop where
  n1 : x1.size ≤ 300
  n2 : x2.length ≤ 80
  n3 : x3.length ≤ 80
  n5 : x5.length ≤ 60
  n6 : x6.length ≤ 30
  n7 : x7.length ≤ 200
  c5 : ∀ c ∈ x5, c.1.size ≤ 300
  c6 : ∀ c ∈ x6, c.1.size ≤ 300 ∧ c.2.size ≤ 300
structure ObjGood (x2 x3 : List Int) (x4 : Int) (x5 : List CellT) (x7 : List InstrT) : Prop where
  i2 : I64s x2
  i3 : I64s x3
  i4 : I64 x4
  i5 : ∀ c ∈ x5, I64 c.2.1 ∧ I64 c.2.2
  i7 : ∀ c ∈ x7, I64 c.1 ∧ I64 c.2.1 ∧ I64 c.2.2.1 ∧ I64 c.2.2.2.1 ∧ I64 c.2.2.2.2.1 ∧ I64 c.2.2.2.2.2
/-- An object's bytes. -/
def objE (x1 : ByteArray) (x2 x3 : List Int) (x4 : Int) (x5 : List CellT) (x6 : List InstT) (x7 : List InstrT) : List Int :=
  txt x1 ++ (nums [(x2.length : Int)] ++ (nums x2 ++ (nums [(x3.length : Int)] ++ (nums x3 ++ (nums [x4, (x5.length : Int)] ++ (x5.flatMap cellE ++ (nums [(x6.length : Int)] ++ (x6.flatMap instE ++ (nums [(x7.length : Int)] ++ x7.flatMap instrE)))))))))
theorem cellE_len (c : CellT) (h : c.1.size ≤ 300) : (cellE c).length ≤ 330 := by
  have h1 := txt_len c.1
  have h2 := nums_len [c.2.1]
  have h3 := (enc_len c.2.2).2
  simp only [cellE, List.length_append, List.length_cons, List.length_nil] at *
  omega
theorem instE_len (c : InstT) (h : c.1.size ≤ 300 ∧ c.2.size ≤ 300) : (instE c).length ≤ 630 := by
  have h1 := txt_len c.1
  have h2 := txt_len c.2
  simp only [instE, List.length_append] at *
  omega
theorem instrE_len (c : InstrT) : (instrE c).length ≤ 60 := by
  have h2 := nums_len [c.1, c.2.1, c.2.2.1, c.2.2.2.1, c.2.2.2.2.1]
  have h3 := (enc_len c.2.2.2.2.2).2
  simp only [instrE, List.length_append, List.length_cons, List.length_nil] at *
  omega
theorem flat_len {α : Type} (f : α → List Int) (m : Nat) : ∀ (l : List α), (∀ c ∈ l, (f c).length ≤ m) → (l.flatMap f).length ≤ m * l.length
  | [], _ => by simp
  | a :: l, h => by
    have h1 := h a List.mem_cons_self
    have h2 := flat_len f m l (fun c hc => h c (List.mem_cons_of_mem _ hc))
    simp only [List.flatMap_cons, List.length_append, List.length_cons, Nat.mul_add, Nat.mul_one]
    omega
theorem flat_take {α : Type} (f : α → List Int) (l : List α) (i : Nat) (h : i < l.length) (d : α) : (l.take (i + 1)).flatMap f = (l.take i).flatMap f ++ f (l.getD i d) := by
  rw [take_succ l i h d]
  simp
theorem flat_take_len {α : Type} (f : α → List Int) (m : Nat) (l : List α) (h : ∀ c ∈ l, (f c).length ≤ m) (i : Nat) : ((l.take i).flatMap f).length ≤ m * l.length := by
  have h1 := flat_len f m (l.take i) (fun c hc => h c (List.mem_of_mem_take hc))
  have h2 : (l.take i).length ≤ l.length := by simp; omega
  exact Nat.le_trans h1 (Nat.mul_le_mul_left m h2)
theorem first_at {n : Nat} (hn : 10 ≤ n) : law21_first n ((), ()) = some ((true, ()), ()) := by
  obtain ⟨n, rfl⟩ : ∃ m, n = m + 5 := ⟨n - 5, by omega⟩
  kernel_rfl
theorem object_at {n : Nat} (hn : 1000 ≤ n) (x1 : ByteArray) (x2 x3 : List Int) (x4 : Int) (x5 : List CellT) (x6 : List InstT) (x7 : List InstrT) :
    ∃ b, world_Object n (((x1, x2, x3, x4, x5, x6, x7, ()), ()), ()) = some ((b, ()), ()) ∧ (b = true → ObjOk x1 x2 x3 x4 x5 x6 x7) := by
  obtain ⟨n, rfl⟩ : ∃ m, n = m + 1 := ⟨n - 1, by omega⟩
  simp only [world_Object]
  by_cases h1 : (x1.size : Int) > 300
  · rw [if_pos (decide_eq_true h1)]; exact ⟨_, rfl, fun h => by cases h⟩
  rw [if_neg (by simpa using h1)]
  by_cases h2 : (x2.length : Int) > 80
  · rw [if_pos (decide_eq_true h2)]; exact ⟨_, rfl, fun h => by cases h⟩
  rw [if_neg (by simpa using h2)]
  by_cases h3 : (x3.length : Int) > 80
  · rw [if_pos (decide_eq_true h3)]; exact ⟨_, rfl, fun h => by cases h⟩
  rw [if_neg (by simpa using h3)]
  by_cases h5 : (x5.length : Int) > 60
  · rw [if_pos (decide_eq_true h5)]; exact ⟨_, rfl, fun h => by cases h⟩
  rw [if_neg (by simpa using h5)]
  by_cases h6 : (x6.length : Int) > 30
  · rw [if_pos (decide_eq_true h6)]; exact ⟨_, rfl, fun h => by cases h⟩
  rw [if_neg (by simpa using h6)]
  by_cases h7 : (x7.length : Int) > 200
  · rw [if_pos (decide_eq_true h7)]; exact ⟨_, rfl, fun h => by cases h⟩
  rw [if_neg (by simpa using h7)]
  have a5 := for_inv (F := world_Object_l4 n) (len := x5.length) (st := fun i => (((), (i : Int), ()), ((x1, x2, x3, x4, x5, x6, x7, ()), ()))) (fun i => ∀ c ∈ x5.take i, c.1.size ≤ 300)
    (fun r => (r = some (.inl (((), ()), ((x1, x2, x3, x4, x5, x6, x7, ()), ()))) ∧ ∀ c ∈ x5, c.1.size ≤ 300) ∨ r = some (.inr (.inl ((false, ()), ())))) (by simp) (fun i k hi hI => by
      simp only [world_Object_l4]
      rw [if_pos (decide_eq_true (show (i : Int) < (x5.length : Int) by omega)), if_pos (show 0 ≤ (i : Int) ∧ (i : Int) < (x5.length : Int) from ⟨by omega, by omega⟩), rdT_nat]
      by_cases hb : ((x5.getD i (Ty.dflt ty7)).1.size : Int) > 300
      · exact .inr (.inr (by rw [if_pos (decide_eq_true hb)]))
      · refine .inl ⟨?_, ?_⟩
        · intro c hc
          rw [take_succ x5 i hi (Ty.dflt ty7)] at hc
          rcases List.mem_append.1 hc with hc | hc
          · exact hI c hc
          · rw [List.mem_singleton.1 hc]; omega
        · rw [if_neg (by simpa using hb), w64_up i (by omega)]) (fun k hI => by
      rw [List.take_length] at hI
      refine .inl ⟨?_, hI⟩
      simp only [world_Object_l4]
      rw [if_neg (by simp)]) n (by omega)
  rcases a5 with ⟨a5, c5⟩ | a5
  · have a6 := for_inv (F := world_Object_l9 n) (len := x6.length) (st := fun i => (((), (i : Int), ()), ((x1, x2, x3, x4, x5, x6, x7, ()), ()))) (fun i => ∀ c ∈ x6.take i, c.1.size ≤ 300 ∧ c.2.size ≤ 300)
      (fun r => (r = some (.inl ((), ())) ∧ ∀ c ∈ x6, c.1.size ≤ 300 ∧ c.2.size ≤ 300) ∨ r = some (.inr (.inl ((false, ()), ())))) (by simp) (fun i k hi hI => by
        simp only [world_Object_l9]
        rw [if_pos (decide_eq_true (show (i : Int) < (x6.length : Int) by omega)), if_pos (show 0 ≤ (i : Int) ∧ (i : Int) < (x6.length : Int) from ⟨by omega, by omega⟩), rdT_nat]
        by_cases hb : ((x6.getD i (Ty.dflt ty11)).1.size : Int) > 300
        · exact .inr (.inr (by rw [if_pos (decide_eq_true hb)]))
        rw [if_neg (by simpa using hb), if_pos (show 0 ≤ (i : Int) ∧ (i : Int) < (x6.length : Int) from ⟨by omega, by omega⟩)]
        by_cases hb2 : ((x6.getD i (Ty.dflt ty11)).2.size : Int) > 300
        · exact .inr (.inr (by rw [if_pos (decide_eq_true hb2)]))
        · refine .inl ⟨?_, ?_⟩
          · intro c hc
            rw [take_succ x6 i hi (Ty.dflt ty11)] at hc
            rcases List.mem_append.1 hc with hc | hc
            · exact hI c hc
            · rw [List.mem_singleton.1 hc]; omega
          · rw [if_neg (by simpa using hb2), w64_up i (by omega)]) (fun k hI => by
        rw [List.take_length] at hI
        refine .inl ⟨?_, hI⟩
        simp only [world_Object_l9]
        rw [if_neg (by simp)]) n (by omega)
    rw [show (0 : Int) = ((0 : Nat) : Int) from rfl, a5]
    rcases a6 with ⟨a6, c6⟩ | a6
    · refine ⟨true, ?_, fun _ => ⟨by omega, by omega, by omega, by omega, by omega, by omega, c5, c6⟩⟩
      simp only [a6]
    · refine ⟨false, ?_, fun h => by cases h⟩
      simp only [a6]
  · rw [show (0 : Int) = ((0 : Nat) : Int) from rfl, a5]
    exact ⟨_, rfl, fun h => by cases h⟩
/-! ### may it be -/
theorem f1_at {n : Nat} (hn : 1 ≤ n) (s : ByteArray) : ∃ b, code_fits_1 n ((s, ()), ()) = some ((b, ()), ()) ∧ (b = false → s.size ≤ 200) := by
  obtain ⟨n, rfl⟩ : ∃ m, n = m + 1 := ⟨n - 1, by omega⟩
  simp only [code_fits_1]
  refine ⟨_, rfl, fun h => ?_⟩
  have h := of_decide_eq_false h
  omega
theorem f2_at {n : Nat} (hn : 1 ≤ n) (z : Int) : ∃ b, code_fits_2 n ((z, ()), ()) = some ((b, ()), ()) ∧ (b = false → z = 1 ∨ z = 2) := by
  obtain ⟨n, rfl⟩ : ∃ m, n = m + 1 := ⟨n - 1, by omega⟩
  simp only [code_fits_2]
  by_cases h1 : z = 1
  · rw [if_neg (by simp [h1])]
    exact ⟨_, rfl, fun _ => .inl h1⟩
  · rw [if_pos (by simpa using h1)]
    exact ⟨_, rfl, fun h => .inr (by simpa using h)⟩
theorem f3_at {n : Nat} (hn : 1 ≤ n) (z : Int) : ∃ b, code_fits_3 n ((z, ()), ()) = some ((b, ()), ()) ∧ (b = false → -1 ≤ z ∧ z ≤ 1048576) := by
  obtain ⟨n, rfl⟩ : ∃ m, n = m + 1 := ⟨n - 1, by omega⟩
  simp only [code_fits_3]
  by_cases h1 : z < -1
  · rw [if_pos (decide_eq_true h1)]
    exact ⟨_, rfl, fun h => by cases h⟩
  · rw [if_neg (by simpa using h1)]
    refine ⟨_, rfl, fun h => ?_⟩
    have h : ¬ (z > 1048576) := of_decide_eq_false h
    exact ⟨by omega, by omega⟩
theorem cont_str {n : Nat} (l : List ByteArray) (hn : 10 + l.length ≤ n) (hl : l.length < 1000000) : ∃ b, slices_ContainsFunc_string_string n ((l, (), ()), ()) = some ((b, ()), ()) ∧ (b = false → ∀ c ∈ l, c.size ≤ 200) := by
  obtain ⟨n, rfl⟩ : ∃ m, n = m + 1 + 1 + 1 := ⟨n - 3, by omega⟩
  have a := for_inv (F := slices_IndexFunc_string_string_l2 (n + 1)) (len := l.length) (st := fun i => ((l, (), (l.length : Int), (i : Int), ()), ())) (fun i => ∀ c ∈ l.take i, c.size ≤ 200) (fun r => (r = some (.inl ((), ())) ∧ ∀ c ∈ l, c.size ≤ 200) ∨ ∃ z : Int, 0 ≤ z ∧ r = some (.inr (.inl ((z, ()), ())))) (by simp) (fun i k hi hI => by
    have hf := f1_at (n := n + 1) (by omega) (rdT (.str) l i)
    simp only [slices_IndexFunc_string_string_l2]
    rw [if_pos (decide_eq_true (show (i : Int) < (l.length : Int) by omega)), if_pos (show 0 ≤ (i : Int) ∧ (i : Int) < (l.length : Int) from ⟨by omega, by omega⟩)]
    obtain ⟨b, hb, hb2⟩ := hf
    rw [hb]
    cases b with
    | true => exact .inr (.inr ⟨_, by omega, rfl⟩)
    | false =>
      refine .inl ⟨?_, by rw [w64_up i (by omega)]; rfl⟩
      intro c hc
      rw [take_succ l i hi (Ty.dflt (.str))] at hc
      rcases List.mem_append.1 hc with hc | hc
      · exact hI c hc
      · rw [List.mem_singleton.1 hc]; exact hb2 rfl) (fun k hI => .inl (by
    rw [List.take_length] at hI
    refine ⟨?_, hI⟩
    simp only [slices_IndexFunc_string_string_l2]
    rw [if_neg (by simp)])) (n + 1) (by omega)
  simp only [slices_ContainsFunc_string_string, slices_IndexFunc_string_string]
  rw [show (0 : Int) = ((0 : Nat) : Int) from rfl]
  rcases a with ⟨a, h⟩ | ⟨z, hz, a⟩
  · rw [a]; exact ⟨_, rfl, fun _ => h⟩
  · rw [a]; exact ⟨_, rfl, fun hh => absurd hh (by simp; omega)⟩
theorem cont_int {n : Nat} (l : List Int) (hn : 10 + l.length ≤ n) (hl : l.length < 1000000) : ∃ b, slices_ContainsFunc_int_int n ((l, (), ()), ()) = some ((b, ()), ()) ∧ (b = false → ∀ c ∈ l, (c = 1 ∨ c = 2)) := by
  obtain ⟨n, rfl⟩ : ∃ m, n = m + 1 + 1 + 1 := ⟨n - 3, by omega⟩
  have a := for_inv (F := slices_IndexFunc_int_int_l2 (n + 1)) (len := l.length) (st := fun i => ((l, (), (l.length : Int), (i : Int), ()), ())) (fun i => ∀ c ∈ l.take i, (c = 1 ∨ c = 2)) (fun r => (r = some (.inl ((), ())) ∧ ∀ c ∈ l, (c = 1 ∨ c = 2)) ∨ ∃ z : Int, 0 ≤ z ∧ r = some (.inr (.inl ((z, ()), ())))) (by simp) (fun i k hi hI => by
    have hf := f2_at (n := n + 1) (by omega) (rdT (.int .i64) l i)
    simp only [slices_IndexFunc_int_int_l2]
    rw [if_pos (decide_eq_true (show (i : Int) < (l.length : Int) by omega)), if_pos (show 0 ≤ (i : Int) ∧ (i : Int) < (l.length : Int) from ⟨by omega, by omega⟩)]
    obtain ⟨b, hb, hb2⟩ := hf
    rw [hb]
    cases b with
    | true => exact .inr (.inr ⟨_, by omega, rfl⟩)
    | false =>
      refine .inl ⟨?_, by rw [w64_up i (by omega)]; rfl⟩
      intro c hc
      rw [take_succ l i hi (Ty.dflt (.int .i64))] at hc
      rcases List.mem_append.1 hc with hc | hc
      · exact hI c hc
      · rw [List.mem_singleton.1 hc]; exact hb2 rfl) (fun k hI => .inl (by
    rw [List.take_length] at hI
    refine ⟨?_, hI⟩
    simp only [slices_IndexFunc_int_int_l2]
    rw [if_neg (by simp)])) (n + 1) (by omega)
  simp only [slices_ContainsFunc_int_int, slices_IndexFunc_int_int]
  rw [show (0 : Int) = ((0 : Nat) : Int) from rfl]
  rcases a with ⟨a, h⟩ | ⟨z, hz, a⟩
  · rw [a]; exact ⟨_, rfl, fun _ => h⟩
  · rw [a]; exact ⟨_, rfl, fun hh => absurd hh (by simp; omega)⟩
theorem cont_int2 {n : Nat} (l : List Int) (hn : 10 + l.length ≤ n) (hl : l.length < 1000000) : ∃ b, slices_ContainsFunc_int_int_2 n ((l, (), ()), ()) = some ((b, ()), ()) ∧ (b = false → ∀ c ∈ l, (-1 ≤ c ∧ c ≤ 1048576)) := by
  obtain ⟨n, rfl⟩ : ∃ m, n = m + 1 + 1 + 1 := ⟨n - 3, by omega⟩
  have a := for_inv (F := slices_IndexFunc_int_int_2_l2 (n + 1)) (len := l.length) (st := fun i => ((l, (), (l.length : Int), (i : Int), ()), ())) (fun i => ∀ c ∈ l.take i, (-1 ≤ c ∧ c ≤ 1048576)) (fun r => (r = some (.inl ((), ())) ∧ ∀ c ∈ l, (-1 ≤ c ∧ c ≤ 1048576)) ∨ ∃ z : Int, 0 ≤ z ∧ r = some (.inr (.inl ((z, ()), ())))) (by simp) (fun i k hi hI => by
    have hf := f3_at (n := n + 1) (by omega) (rdT (.int .i64) l i)
    simp only [slices_IndexFunc_int_int_2_l2]
    rw [if_pos (decide_eq_true (show (i : Int) < (l.length : Int) by omega)), if_pos (show 0 ≤ (i : Int) ∧ (i : Int) < (l.length : Int) from ⟨by omega, by omega⟩)]
    obtain ⟨b, hb, hb2⟩ := hf
    rw [hb]
    cases b with
    | true => exact .inr (.inr ⟨_, by omega, rfl⟩)
    | false =>
      refine .inl ⟨?_, by rw [w64_up i (by omega)]; rfl⟩
      intro c hc
      rw [take_succ l i hi (Ty.dflt (.int .i64))] at hc
      rcases List.mem_append.1 hc with hc | hc
      · exact hI c hc
      · rw [List.mem_singleton.1 hc]; exact hb2 rfl) (fun k hI => .inl (by
    rw [List.take_length] at hI
    refine ⟨?_, hI⟩
    simp only [slices_IndexFunc_int_int_2_l2]
    rw [if_neg (by simp)])) (n + 1) (by omega)
  simp only [slices_ContainsFunc_int_int_2, slices_IndexFunc_int_int_2]
  rw [show (0 : Int) = ((0 : Nat) : Int) from rfl]
  rcases a with ⟨a, h⟩ | ⟨z, hz, a⟩
  · rw [a]; exact ⟨_, rfl, fun _ => h⟩
  · rw [a]; exact ⟨_, rfl, fun hh => absurd hh (by simp; omega)⟩
theorem grow_at {n : Nat} (hn : 2 ≤ n) (m : Nat) (hm : m < 1000000) : slices_Grow_int_int n (((), (m : Int), ()), ()) = some (((), ()), ([], ())) := by
  obtain ⟨n, rfl⟩ : ∃ m, n = m + 1 := ⟨n - 1, by omega⟩
  simp only [slices_Grow_int_int]
  rw [if_neg (by simp), Int.sub_zero, w64_id (by omega) (by omega)]
  by_cases h : 0 < m
  · rw [if_pos (by simpa using h), if_pos (by decide), if_pos ⟨by omega, by omega⟩, if_pos ⟨by decide, by omega⟩]
    rfl
  · rw [if_neg (by simpa using h)]
theorem concat_at {n : Nat} (hn : 10 ≤ n) (a b : List Int) (ha : a.length < 1000) (hb : b.length < 1000) : ∃ l : List (List Int), slices_Concat_int_int n (((), ()), ([a, b], ())) = some (((), ()), (l, a ++ b, ())) := by
  obtain ⟨n, rfl⟩ : ∃ m, n = m + 5 := ⟨n - 5, by omega⟩
  have w1 : IntKind.i64.wrap (0 + 1) = 1 := by rfl
  have w2 : IntKind.i64.wrap (1 + 1) = 2 := by rfl
  have r0 : rdT ty2 [a, b] 0 = a := rfl
  have r1 : rdT ty2 [a, b] 1 = b := rfl
  have e1 : slices_Concat_int_int_l3 (n + 4) (n + 4) (((), 0, (), 2, 0, ()), ([a, b], ())) = some (.inl (((), ((a.length + b.length : Nat) : Int), ()), ([a, b], ()))) := by
    simp only [slices_Concat_int_int_l3]
    rw [if_pos (by decide), if_pos (by simp), r0, if_neg (by rw [w64_id (by omega) (by omega)]; simp), w1, if_pos (by decide), if_pos (by simp), r1, w64_id (x := 0 + (a.length : Int)) (by omega) (by omega), w64_id (by omega) (by omega), if_neg (by simp; omega), w2, if_neg (by decide)]
    simp
  have e2 : slices_Concat_int_int_l11 (n + 4) (n + 4) (((), (), 2, 0, ()), ([a, b], [], ())) = some (.inl (((), ()), ([a, b], a ++ b, ()))) := by
    simp only [slices_Concat_int_int_l11]
    rw [if_pos (by decide), if_pos (by simp), r0, if_pos (by simp; omega), w1, if_pos (by decide), if_pos (by simp), r1, if_pos (by simp; omega), w2, if_neg (by decide)]
    simp
  simp only [slices_Concat_int_int]
  refine ⟨[a, b], ?_⟩
  show (match slices_Concat_int_int_l3 (n + 4) (n + 4) (((), 0, (), 2, 0, ()), ([a, b], ())) with | some (.inl ((_, x2, _), (l3, _))) => _ | some (.inr (_)) => _ | none => _) = _
  rw [e1]
  simp only []
  rw [grow_at (by omega) _ (by omega)]
  show (match slices_Concat_int_int_l11 (n + 4) (n + 4) (((), (), 2, 0, ()), ([a, b], [], ())) with | some (.inl ((_, _), (l5, l6, _))) => _ | some (.inr (_)) => _ | none => _) = _
  rw [e2]
end Go.Proofs.YthllmcijlhlimaaGreatDoor.Pure
