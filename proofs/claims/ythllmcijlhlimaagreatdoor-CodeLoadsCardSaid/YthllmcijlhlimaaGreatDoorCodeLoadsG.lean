/- What a reader reads, in plain words: rows, and an object. By this session. -/
import Derived.Test.YthllmcijlhlimaaGreatDoorCodeLoadsF
namespace Go.Proofs.YthllmcijlhlimaaGreatDoor.Pure
open Go Go.Lib Go.Proofs.YthllmcijlhlimaaGreatDoor.Cm
set_option linter.unusedVariables false
set_option linter.unusedSimpArgs false
theorem types_stop (n : Nat) {k : Nat} (hk : 0 < k) (hn : 1 ≤ n) (x : Int) (b : List Int) (a : Int) {e : ErrV} (he : errNil e = false) (out : List Int) : code_types_l3 n k (((), (), x, ()), ((b, a, e, ()), out, ())) = some (.inl (((), ()), ((b, a, e, ()), out, ()))) := by
  obtain ⟨k, rfl⟩ : ∃ m, k = m + 1 := ⟨k - 1, by omega⟩
  simp only [code_types_l3, Err_at hn, he]
  split <;> rfl
theorem types_l3 {n : Nat} (hn : 50 ≤ n) {t : Option Nat} {b : List Int} (hb : b.length < 1000000000) {B : List Int} : ∀ (l : List Int) (out : List Int) (a k : Nat), l.length + 1 < k → out.length + l.length < 100000 → (∀ c ∈ l, c = 1 ∨ c = 2) → G t b a .nil (nums l ++ B) →
    ∃ out' a' e', code_types_l3 n k (((), (), (l.length : Int), ()), ((b, (a : Int), .nil, ()), out, ())) = some (.inl (((), ()), ((b, ((a' : Nat) : Int), e', ()), out', ()))) ∧ G t b a' e' B ∧ (e' = .nil → out' = out ++ l)
  | [], out, a, k, hk, ho, hl, g => by
    obtain ⟨k, rfl⟩ : ∃ m, k = m + 1 := ⟨k - 1, by omega⟩
    refine ⟨out, a, .nil, ?_, by simpa [nums] using g, fun _ => by rw [List.append_nil]⟩
    simp only [code_types_l3]
    rw [if_neg (by simp)]
  | c :: l, out, a, k, hk, ho, hl, g => by
    simp only [List.length_cons] at hk ho
    obtain ⟨k, rfl⟩ : ∃ m, k = m + 1 := ⟨k - 1, by omega⟩
    have hc := hl c List.mem_cons_self
    rw [nums_cons, List.append_assoc] at g
    obtain ⟨v, a1, e1, hN, g1, hv⟩ := Num_at (n := n) (by omega) hb (lo := 1) (hi := 2) ⟨by omega, by omega⟩ (by omega) (by omega) g
    simp only [code_types_l3, Err_at (show 1 ≤ n by omega), hN]
    rw [if_pos (by simp <;> omega), if_pos (by decide), if_pos (by simp; omega)]
    rcases errNil_cases e1 with rfl | ⟨he, hne⟩
    · obtain ⟨-, rfl⟩ := hv rfl
      obtain ⟨out', a', e', h, g2, hv2⟩ := types_l3 hn hb l (out ++ [v]) a1 k (by omega) (by simp; omega) (fun c hc => hl c (List.mem_cons_of_mem _ hc)) g1
      refine ⟨out', a', e', ?_, g2, fun h => by rw [hv2 h, List.append_assoc]; rfl⟩
      rw [show IntKind.i64.wrap (((v :: l).length : Int) - 1) = (l.length : Int) by rw [List.length_cons, w64_id (by omega) (by omega)]; omega]
      exact h
    · exact ⟨_, a1, e1, types_stop n (by omega) (by omega) _ b a1 he _, g1.bad he g1.1 he, fun h => absurd h hne⟩
theorem types_at {n : Nat} (hn : 300 ≤ n) {t : Option Nat} {b : List Int} (hb : b.length < 1000000000) {a : Nat} {e : ErrV} {B : List Int} {l : List Int} (hl : l.length ≤ 64) (ht : ∀ c ∈ l, c = 1 ∨ c = 2) (g : G t b a e (enc (l.length : Int) ++ (nums l ++ B))) :
    ∃ out' a' e', code_types n (((), ()), ((b, (a : Int), e, ()), ())) = some (((), ()), ((b, ((a' : Nat) : Int), e', ()), out', ())) ∧ G t b a' e' B ∧ (e' = .nil → e = .nil ∧ out' = l) := by
  obtain ⟨n, rfl⟩ : ∃ m, n = m + 1 + 1 := ⟨n - 2, by omega⟩
  obtain ⟨v, a1, e1, hN, g1, hv⟩ := Num_at (n := n + 1) (by omega) hb (lo := 0) (hi := 64) ⟨by omega, by omega⟩ (by omega) (by omega) g
  simp only [code_types, hN]
  rcases errNil_cases e1 with rfl | ⟨he, hne⟩
  · obtain ⟨h0, rfl⟩ := hv rfl
    obtain ⟨out', a', e', h, g2, hv2⟩ := types_l3 (n := n + 1) (by omega) hb l [] a1 (n + 1) (by omega) (by simp; omega) ht g1
    refine ⟨out', a', e', ?_, g2, fun h => ⟨h0, hv2 h⟩⟩
    rw [h]
  · refine ⟨[], a1, e1, ?_, g1.bad he g1.1 he, fun h => absurd h hne⟩
    rw [types_stop (n + 1) (by omega) (by omega) _ b a1 he]
theorem nums_nil : nums [] = [] := rfl
theorem l5_stop (n : Nat) {k : Nat} (hk : 0 < k) (hn : 1 ≤ n) (x : Int) (b : List Int) (a : Int) {e : ErrV} (he : errNil e = false) (x5 x7 : ByteArray) (x6 x8 : Int) (y2 : List Int) (y3 : List Int) (out : List CellT) : code_object_l5 n k (((), (), (), x, ()), ((b, a, e, ()), (x5, (), (), x6, (), (), (), ()), (x7, (), (), x8, (), (), (), ()), y2, y3, out, ())) = some (.inl (((), (), (), ()), ((b, a, e, ()), (x5, (), (), x6, (), (), (), ()), (x7, (), (), x8, (), (), (), ()), y2, y3, out, ()))) := by
  obtain ⟨k, rfl⟩ : ∃ m, k = m + 1 := ⟨k - 1, by omega⟩
  simp only [code_object_l5, Err_at hn, he]
  split <;> rfl
theorem l5_run {n : Nat} (hn : 50 ≤ n) {t : Option Nat} {b : List Int} (hb : b.length < 1000000000) {B : List Int} (x5 x7 : ByteArray) (x6 x8 : Int) (y2 : List Int) (y3 : List Int) : ∀ (l : List CellT) (out : List CellT) (a k : Nat), l.length + 1 < k → out.length + l.length < 100000 → (∀ c ∈ l, c.1.size ≤ 200 ∧ (c.2.1 = 1 ∨ c.2.1 = 2) ∧ I64 c.2.2) → G t b a .nil (l.flatMap cellE ++ B) →
    ∃ out' a' e', code_object_l5 n k (((), (), (), (l.length : Int), ()), ((b, (a : Int), .nil, ()), (x5, (), (), x6, (), (), (), ()), (x7, (), (), x8, (), (), (), ()), y2, y3, out, ())) = some (.inl (((), (), (), ()), ((b, ((a' : Nat) : Int), e', ()), (x5, (), (), x6, (), (), (), ()), (x7, (), (), x8, (), (), (), ()), y2, y3, out', ()))) ∧ G t b a' e' B ∧ (e' = .nil → out' = out ++ l)
  | [], out, a, k, hk, ho, hl, g => by
    obtain ⟨k, rfl⟩ : ∃ m, k = m + 1 := ⟨k - 1, by omega⟩
    refine ⟨out, a, .nil, ?_, by simpa using g, fun _ => by rw [List.append_nil]⟩
    simp only [code_object_l5]
    rw [if_neg (by simp)]
  | c :: l, out, a, k, hk, ho, hl, g => by
    simp only [List.length_cons] at hk ho
    obtain ⟨k, rfl⟩ : ∃ m, k = m + 1 := ⟨k - 1, by omega⟩
    have hc := hl c List.mem_cons_self
    obtain ⟨c1, c2, c3⟩ := c
    simp only [] at hc
    simp only [List.flatMap_cons, cellE, nums_cons, nums_nil, List.append_assoc, List.nil_append] at g
    obtain ⟨v0, a0, e0, hN0, g0, hv0⟩ := Text_at (n := n) (by omega) hb (most := 200) (by omega) (by omega) g
    obtain ⟨v1, a1, e1, hN1, g1, hv1⟩ := Num_at (n := n) (by omega) hb (lo := 1) (hi := 2) ⟨by omega, by omega⟩ (by omega) (by omega) g0
    obtain ⟨v2, a2, e2, hN2, g2, hv2⟩ := any_at (n := n) (by omega) hb hc.2.2 g1
    have hall : e2 = .nil → v0 = c1 ∧ v1 = c2 ∧ v2 = c3 := fun h => by
      obtain ⟨q2, w2⟩ := hv2 h
      obtain ⟨q1, w1⟩ := hv1 q2
      obtain ⟨q0, w0⟩ := hv0 q1
      exact ⟨w0, w1, w2⟩
    simp only [code_object_l5, Err_at (show 1 ≤ n by omega), hN0, hN1, hN2]
    rw [if_pos (by simp <;> omega), if_pos (by decide), if_pos (by simp; omega)]
    rcases errNil_cases e2 with rfl | ⟨he, hne⟩
    · obtain ⟨rfl, rfl, rfl⟩ := hall rfl
      obtain ⟨out', a', e', h, g2, hv2⟩ := l5_run hn hb x5 x7 x6 x8 y2 y3 l (out ++ [_]) a2 k (by omega) (by simp; omega) (fun c hc => hl c (List.mem_cons_of_mem _ hc)) g2
      refine ⟨out', a', e', ?_, g2, fun h => by rw [hv2 h, List.append_assoc]; rfl⟩
      rw [show IntKind.i64.wrap (((((v0, v1, v2) : CellT) :: l).length : Int) - 1) = (l.length : Int) by rw [List.length_cons, w64_id (by omega) (by omega)]; omega]
      exact h
    · exact ⟨_, a2, e2, l5_stop n (by omega) (by omega) _ b a2 he x5 x7 x6 x8 y2 y3 _, g2.bad he g2.1 he, fun h => absurd h hne⟩
theorem l5_at {n : Nat} (hn : 300 ≤ n) {t : Option Nat} {b : List Int} (hb : b.length < 1000000000) {B : List Int} (x5 x7 : ByteArray) (x6 x8 : Int) (y2 : List Int) (y3 : List Int) {l : List CellT} (hlen : l.length ≤ 200) (hl : ∀ c ∈ l, c.1.size ≤ 200 ∧ (c.2.1 = 1 ∨ c.2.1 = 2) ∧ I64 c.2.2) {a : Nat} {e : ErrV} {v : Int} (hv : e = .nil → v = (l.length : Int)) (g : G t b a e (l.flatMap cellE ++ B)) :
    ∃ out' a' e', code_object_l5 n n (((), (), (), v, ()), ((b, (a : Int), e, ()), (x5, (), (), x6, (), (), (), ()), (x7, (), (), x8, (), (), (), ()), y2, y3, [], ())) = some (.inl (((), (), (), ()), ((b, ((a' : Nat) : Int), e', ()), (x5, (), (), x6, (), (), (), ()), (x7, (), (), x8, (), (), (), ()), y2, y3, out', ()))) ∧ G t b a' e' B ∧ (e' = .nil → e = .nil ∧ out' = l) := by
  rcases errNil_cases e with rfl | ⟨he, hne⟩
  · obtain rfl := hv rfl
    obtain ⟨out', a', e', h, g2, hv2⟩ := l5_run (n := n) (by omega) hb x5 x7 x6 x8 y2 y3 l [] a n (by omega) (by simp; omega) hl g
    exact ⟨out', a', e', h, g2, fun h => ⟨rfl, hv2 h⟩⟩
  · obtain ⟨n, rfl⟩ : ∃ m, n = m + 1 := ⟨n - 1, by omega⟩
    exact ⟨[], a, e, l5_stop (n + 1) (by omega) (by omega) _ b a he x5 x7 x6 x8 y2 y3 _, g.bad he g.1 he, fun h => absurd h hne⟩
theorem l12_stop (n : Nat) {k : Nat} (hk : 0 < k) (hn : 1 ≤ n) (x : Int) (b : List Int) (a : Int) {e : ErrV} (he : errNil e = false) (x5 x7 : ByteArray) (x6 x8 : Int) (y2 : List Int) (y3 : List Int) (y5 : List CellT) (out : List InstT) : code_object_l12 n k (((), (), (), x, ()), ((b, a, e, ()), (x5, (), (), x6, (), (), (), ()), (x7, (), (), x8, (), (), (), ()), y2, y3, y5, out, ())) = some (.inl (((), (), (), ()), ((b, a, e, ()), (x5, (), (), x6, (), (), (), ()), (x7, (), (), x8, (), (), (), ()), y2, y3, y5, out, ()))) := by
  obtain ⟨k, rfl⟩ : ∃ m, k = m + 1 := ⟨k - 1, by omega⟩
  simp only [code_object_l12, Err_at hn, he]
  split <;> rfl
theorem l12_run {n : Nat} (hn : 50 ≤ n) {t : Option Nat} {b : List Int} (hb : b.length < 1000000000) {B : List Int} (x5 x7 : ByteArray) (x6 x8 : Int) (y2 : List Int) (y3 : List Int) (y5 : List CellT) : ∀ (l : List InstT) (out : List InstT) (a k : Nat), l.length + 1 < k → out.length + l.length < 100000 → (∀ c ∈ l, c.1.size ≤ 200 ∧ c.2.size ≤ 200) → G t b a .nil (l.flatMap instE ++ B) →
    ∃ out' a' e', code_object_l12 n k (((), (), (), (l.length : Int), ()), ((b, (a : Int), .nil, ()), (x5, (), (), x6, (), (), (), ()), (x7, (), (), x8, (), (), (), ()), y2, y3, y5, out, ())) = some (.inl (((), (), (), ()), ((b, ((a' : Nat) : Int), e', ()), (x5, (), (), x6, (), (), (), ()), (x7, (), (), x8, (), (), (), ()), y2, y3, y5, out', ()))) ∧ G t b a' e' B ∧ (e' = .nil → out' = out ++ l)
  | [], out, a, k, hk, ho, hl, g => by
    obtain ⟨k, rfl⟩ : ∃ m, k = m + 1 := ⟨k - 1, by omega⟩
    refine ⟨out, a, .nil, ?_, by simpa using g, fun _ => by rw [List.append_nil]⟩
    simp only [code_object_l12]
    rw [if_neg (by simp)]
  | c :: l, out, a, k, hk, ho, hl, g => by
    simp only [List.length_cons] at hk ho
    obtain ⟨k, rfl⟩ : ∃ m, k = m + 1 := ⟨k - 1, by omega⟩
    have hc := hl c List.mem_cons_self
    obtain ⟨c1, c2⟩ := c
    simp only [] at hc
    simp only [List.flatMap_cons, instE, nums_cons, nums_nil, List.append_assoc, List.nil_append] at g
    obtain ⟨v0, a0, e0, hN0, g0, hv0⟩ := Text_at (n := n) (by omega) hb (most := 200) (by omega) (by omega) g
    obtain ⟨v1, a1, e1, hN1, g1, hv1⟩ := Text_at (n := n) (by omega) hb (most := 200) (by omega) (by omega) g0
    have hall : e1 = .nil → v0 = c1 ∧ v1 = c2 := fun h => by
      obtain ⟨q1, w1⟩ := hv1 h
      obtain ⟨q0, w0⟩ := hv0 q1
      exact ⟨w0, w1⟩
    simp only [code_object_l12, Err_at (show 1 ≤ n by omega), hN0, hN1]
    rw [if_pos (by simp <;> omega), if_pos (by decide), if_pos (by simp; omega)]
    rcases errNil_cases e1 with rfl | ⟨he, hne⟩
    · obtain ⟨rfl, rfl⟩ := hall rfl
      obtain ⟨out', a', e', h, g2, hv2⟩ := l12_run hn hb x5 x7 x6 x8 y2 y3 y5 l (out ++ [_]) a1 k (by omega) (by simp; omega) (fun c hc => hl c (List.mem_cons_of_mem _ hc)) g1
      refine ⟨out', a', e', ?_, g2, fun h => by rw [hv2 h, List.append_assoc]; rfl⟩
      rw [show IntKind.i64.wrap (((((v0, v1) : InstT) :: l).length : Int) - 1) = (l.length : Int) by rw [List.length_cons, w64_id (by omega) (by omega)]; omega]
      exact h
    · exact ⟨_, a1, e1, l12_stop n (by omega) (by omega) _ b a1 he x5 x7 x6 x8 y2 y3 y5 _, g1.bad he g1.1 he, fun h => absurd h hne⟩
theorem l12_at {n : Nat} (hn : 300 ≤ n) {t : Option Nat} {b : List Int} (hb : b.length < 1000000000) {B : List Int} (x5 x7 : ByteArray) (x6 x8 : Int) (y2 : List Int) (y3 : List Int) (y5 : List CellT) {l : List InstT} (hlen : l.length ≤ 200) (hl : ∀ c ∈ l, c.1.size ≤ 200 ∧ c.2.size ≤ 200) {a : Nat} {e : ErrV} {v : Int} (hv : e = .nil → v = (l.length : Int)) (g : G t b a e (l.flatMap instE ++ B)) :
    ∃ out' a' e', code_object_l12 n n (((), (), (), v, ()), ((b, (a : Int), e, ()), (x5, (), (), x6, (), (), (), ()), (x7, (), (), x8, (), (), (), ()), y2, y3, y5, [], ())) = some (.inl (((), (), (), ()), ((b, ((a' : Nat) : Int), e', ()), (x5, (), (), x6, (), (), (), ()), (x7, (), (), x8, (), (), (), ()), y2, y3, y5, out', ()))) ∧ G t b a' e' B ∧ (e' = .nil → e = .nil ∧ out' = l) := by
  rcases errNil_cases e with rfl | ⟨he, hne⟩
  · obtain rfl := hv rfl
    obtain ⟨out', a', e', h, g2, hv2⟩ := l12_run (n := n) (by omega) hb x5 x7 x6 x8 y2 y3 y5 l [] a n (by omega) (by simp; omega) hl g
    exact ⟨out', a', e', h, g2, fun h => ⟨rfl, hv2 h⟩⟩
  · obtain ⟨n, rfl⟩ : ∃ m, n = m + 1 := ⟨n - 1, by omega⟩
    exact ⟨[], a, e, l12_stop (n + 1) (by omega) (by omega) _ b a he x5 x7 x6 x8 y2 y3 y5 _, g.bad he g.1 he, fun h => absurd h hne⟩
theorem l18_stop (n : Nat) {k : Nat} (hk : 0 < k) (hn : 1 ≤ n) (x : Int) (b : List Int) (a : Int) {e : ErrV} (he : errNil e = false) (x5 x7 : ByteArray) (x6 x8 : Int) (y2 : List Int) (y3 : List Int) (y5 : List CellT) (y6 : List InstT) (out : List InstrT) : code_object_l18 n k (((), (), (), x, ()), ((b, a, e, ()), (x5, (), (), x6, (), (), (), ()), (x7, (), (), x8, (), (), (), ()), y2, y3, y5, y6, out, ())) = some (.inl (((), (), ()), ((b, a, e, ()), (x5, (), (), x6, (), (), (), ()), (x7, (), (), x8, (), (), (), ()), y2, y3, y5, y6, out, ()))) := by
  obtain ⟨k, rfl⟩ : ∃ m, k = m + 1 := ⟨k - 1, by omega⟩
  simp only [code_object_l18, Err_at hn, he]
  split <;> rfl
theorem l18_run {n : Nat} (hn : 50 ≤ n) {t : Option Nat} {b : List Int} (hb : b.length < 1000000000) {B : List Int} (x5 x7 : ByteArray) (x6 x8 : Int) (y2 : List Int) (y3 : List Int) (y5 : List CellT) (y6 : List InstT) : ∀ (l : List InstrT) (out : List InstrT) (a k : Nat), l.length + 1 < k → out.length + l.length < 100000 → (∀ c ∈ l, InstrFit c ∧ I64 c.2.2.2.2.2) → G t b a .nil (l.flatMap instrE ++ B) →
    ∃ out' a' e', code_object_l18 n k (((), (), (), (l.length : Int), ()), ((b, (a : Int), .nil, ()), (x5, (), (), x6, (), (), (), ()), (x7, (), (), x8, (), (), (), ()), y2, y3, y5, y6, out, ())) = some (.inl (((), (), ()), ((b, ((a' : Nat) : Int), e', ()), (x5, (), (), x6, (), (), (), ()), (x7, (), (), x8, (), (), (), ()), y2, y3, y5, y6, out', ()))) ∧ G t b a' e' B ∧ (e' = .nil → out' = out ++ l)
  | [], out, a, k, hk, ho, hl, g => by
    obtain ⟨k, rfl⟩ : ∃ m, k = m + 1 := ⟨k - 1, by omega⟩
    refine ⟨out, a, .nil, ?_, by simpa using g, fun _ => by rw [List.append_nil]⟩
    simp only [code_object_l18]
    rw [if_neg (by simp)]
  | c :: l, out, a, k, hk, ho, hl, g => by
    simp only [List.length_cons] at hk ho
    obtain ⟨k, rfl⟩ : ∃ m, k = m + 1 := ⟨k - 1, by omega⟩
    have hc := hl c List.mem_cons_self
    obtain ⟨c1, c2, c3, c4, c5, c6⟩ := c
    simp only [InstrFit] at hc
    simp only [List.flatMap_cons, instrE, nums_cons, nums_nil, List.append_assoc, List.nil_append] at g
    obtain ⟨v0, a0, e0, hN0, g0, hv0⟩ := Num_at (n := n) (by omega) hb (lo := 1) (hi := 12) ⟨by omega, by omega⟩ (by omega) (by omega) g
    obtain ⟨v1, a1, e1, hN1, g1, hv1⟩ := Num_at (n := n) (by omega) hb (lo := -1) (hi := 1048576) ⟨by omega, by omega⟩ (by omega) (by omega) g0
    obtain ⟨v2, a2, e2, hN2, g2, hv2⟩ := Num_at (n := n) (by omega) hb (lo := -1) (hi := 1048576) ⟨by omega, by omega⟩ (by omega) (by omega) g1
    obtain ⟨v3, a3, e3, hN3, g3, hv3⟩ := Num_at (n := n) (by omega) hb (lo := -1) (hi := 1048576) ⟨by omega, by omega⟩ (by omega) (by omega) g2
    obtain ⟨v4, a4, e4, hN4, g4, hv4⟩ := Num_at (n := n) (by omega) hb (lo := -1) (hi := 1048576) ⟨by omega, by omega⟩ (by omega) (by omega) g3
    obtain ⟨v5, a5, e5, hN5, g5, hv5⟩ := any_at (n := n) (by omega) hb hc.2 g4
    have hall : e5 = .nil → v0 = c1 ∧ v1 = c2 ∧ v2 = c3 ∧ v3 = c4 ∧ v4 = c5 ∧ v5 = c6 := fun h => by
      obtain ⟨q5, w5⟩ := hv5 h
      obtain ⟨q4, w4⟩ := hv4 q5
      obtain ⟨q3, w3⟩ := hv3 q4
      obtain ⟨q2, w2⟩ := hv2 q3
      obtain ⟨q1, w1⟩ := hv1 q2
      obtain ⟨q0, w0⟩ := hv0 q1
      exact ⟨w0, w1, w2, w3, w4, w5⟩
    simp only [code_object_l18, Err_at (show 1 ≤ n by omega), hN0, hN1, hN2, hN3, hN4, hN5]
    rw [if_pos (by simp <;> omega), if_pos (by decide), if_pos (by simp; omega)]
    rcases errNil_cases e5 with rfl | ⟨he, hne⟩
    · obtain ⟨rfl, rfl, rfl, rfl, rfl, rfl⟩ := hall rfl
      obtain ⟨out', a', e', h, g2, hv2⟩ := l18_run hn hb x5 x7 x6 x8 y2 y3 y5 y6 l (out ++ [_]) a5 k (by omega) (by simp; omega) (fun c hc => hl c (List.mem_cons_of_mem _ hc)) g5
      refine ⟨out', a', e', ?_, g2, fun h => by rw [hv2 h, List.append_assoc]; rfl⟩
      rw [show IntKind.i64.wrap (((((v0, v1, v2, v3, v4, v5) : InstrT) :: l).length : Int) - 1) = (l.length : Int) by rw [List.length_cons, w64_id (by omega) (by omega)]; omega]
      exact h
    · exact ⟨_, a5, e5, l18_stop n (by omega) (by omega) _ b a5 he x5 x7 x6 x8 y2 y3 y5 y6 _, g5.bad he g5.1 he, fun h => absurd h hne⟩
theorem l18_at {n : Nat} (hn : 300 ≤ n) {t : Option Nat} {b : List Int} (hb : b.length < 1000000000) {B : List Int} (x5 x7 : ByteArray) (x6 x8 : Int) (y2 : List Int) (y3 : List Int) (y5 : List CellT) (y6 : List InstT) {l : List InstrT} (hlen : l.length ≤ 200) (hl : ∀ c ∈ l, InstrFit c ∧ I64 c.2.2.2.2.2) {a : Nat} {e : ErrV} {v : Int} (hv : e = .nil → v = (l.length : Int)) (g : G t b a e (l.flatMap instrE ++ B)) :
    ∃ out' a' e', code_object_l18 n n (((), (), (), v, ()), ((b, (a : Int), e, ()), (x5, (), (), x6, (), (), (), ()), (x7, (), (), x8, (), (), (), ()), y2, y3, y5, y6, [], ())) = some (.inl (((), (), ()), ((b, ((a' : Nat) : Int), e', ()), (x5, (), (), x6, (), (), (), ()), (x7, (), (), x8, (), (), (), ()), y2, y3, y5, y6, out', ()))) ∧ G t b a' e' B ∧ (e' = .nil → e = .nil ∧ out' = l) := by
  rcases errNil_cases e with rfl | ⟨he, hne⟩
  · obtain rfl := hv rfl
    obtain ⟨out', a', e', h, g2, hv2⟩ := l18_run (n := n) (by omega) hb x5 x7 x6 x8 y2 y3 y5 y6 l [] a n (by omega) (by simp; omega) hl g
    exact ⟨out', a', e', h, g2, fun h => ⟨rfl, hv2 h⟩⟩
  · obtain ⟨n, rfl⟩ : ∃ m, n = m + 1 := ⟨n - 1, by omega⟩
    exact ⟨[], a, e, l18_stop (n + 1) (by omega) (by omega) _ b a he x5 x7 x6 x8 y2 y3 y5 y6 _, g.bad he g.1 he, fun h => absurd h hne⟩
end Go.Proofs.YthllmcijlhlimaaGreatDoor.Pure
