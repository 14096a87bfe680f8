/- What code lays, in plain words: what is the same. By this session. -/
import Derived.Test.YtgbpbmdhphfdgaaDoorCodeBackB
namespace Go.Proofs.YtgbpbmdhphfdgaaDoor.Pure
open Go Go.Lib Go.Proofs.YtgbpbmdhphfdgaaDoor.Cm
set_option linter.unusedVariables false
set_option linter.unusedSimpArgs false
theorem SameInts_at {n : Nat} (l m : List Int) (hn : 10 + l.length ≤ n) (hl : l.length < 1000000000) : ref_SameInts n ((l, m, ()), ()) = some ((decide (l = m), ()), ()) := by
  obtain ⟨n, rfl⟩ : ∃ k, n = k + 1 := ⟨n - 1, by omega⟩
  simp only [ref_SameInts]
  by_cases hlen : l.length = m.length
  · rw [if_neg (by simp [hlen])]
    have a := for_inv (F := ref_SameInts_l4 n) (len := l.length) (st := fun i => ((l, m, (i : Int), ()), ())) (fun i => l.take i = m.take i) (fun r => (r = some (.inl ((), ())) ∧ l = m) ∨ (r = some (.inr (.inl ((false, ()), ()))) ∧ l ≠ m)) (by simp) (fun i k hi hI => by
      simp only [ref_SameInts_l4]
      rw [if_pos (decide_eq_true (show (i : Int) < (l.length : Int) by omega)), if_pos (show 0 ≤ (i : Int) ∧ (i : Int) < (l.length : Int) from ⟨by omega, by omega⟩), if_pos (show 0 ≤ (i : Int) ∧ (i : Int) < (m.length : Int) from ⟨by omega, by omega⟩)]
      rw [rdT_nat, rdT_nat]
      by_cases he : l.getD i (Ty.dflt (.int .i64)) = m.getD i (Ty.dflt (.int .i64))
      · refine .inl ⟨take_eq_succ hI hi (by omega) _ he, ?_⟩
        rw [he, if_neg (by simp), w64_up i (by omega)]
      · refine .inr (.inr ⟨?_, ne_of_getD _ he⟩)
        rw [if_pos (by simp only [Bool.not_eq_true', beq_eq_false_iff_ne]; exact he)]) (fun k hI => by
      rw [List.take_length, hlen, List.take_length] at hI
      refine .inl ⟨?_, hI⟩
      simp only [ref_SameInts_l4]
      rw [if_neg (by simp)]) n (by omega)
    rw [show (0 : Int) = ((0 : Nat) : Int) from rfl]
    rcases a with ⟨a, h⟩ | ⟨a, h⟩
    · rw [a, decide_eq_true h]
    · rw [a, decide_eq_false h]
  · rw [if_pos (by simp; omega), decide_eq_false (fun h => hlen (by rw [h]))]
theorem SameCell_at {n : Nat} (hn : 2 ≤ n) (a b : CellT) : ref_SameCell n (((a.1, a.2.1, a.2.2, ()), (b.1, b.2.1, b.2.2, ()), ()), ()) = some ((decide (a = b), ()), ()) := by
  obtain ⟨n, rfl⟩ : ∃ k, n = k + 1 := ⟨n - 1, by omega⟩
  obtain ⟨a1, a2, a3⟩ := a
  obtain ⟨b1, b2, b3⟩ := b
  simp only [ref_SameCell, strEq_iff, Prod.mk.injEq]
  by_cases h1 : a1 = b1
  · rw [if_pos (decide_eq_true h1)]
    by_cases h2 : a2 = b2
    · rw [if_pos (by simp [h2])]
      by_cases h3 : a3 = b3 <;> simp [h1, h2, h3]
    · rw [if_neg (by simpa using h2)]
      simp [h2]
  · rw [if_neg (by simpa using h1)]
    simp [h1]
theorem SameCells_at {n : Nat} (l m : List CellT) (hn : 10 + l.length ≤ n) (hl : l.length < 1000000000) : ref_SameCells n ((l, m, ()), ()) = some ((decide (l = m), ()), ()) := by
  obtain ⟨n, rfl⟩ : ∃ k, n = k + 1 := ⟨n - 1, by omega⟩
  simp only [ref_SameCells]
  by_cases hlen : l.length = m.length
  · rw [if_neg (by simp [hlen])]
    have a := for_inv (F := ref_SameCells_l4 n) (len := l.length) (st := fun i => ((l, m, (i : Int), ()), ())) (fun i => l.take i = m.take i) (fun r => (r = some (.inl ((), ())) ∧ l = m) ∨ (r = some (.inr (.inl ((false, ()), ()))) ∧ l ≠ m)) (by simp) (fun i k hi hI => by
      simp only [ref_SameCells_l4]
      rw [if_pos (decide_eq_true (show (i : Int) < (l.length : Int) by omega)), if_pos (show 0 ≤ (i : Int) ∧ (i : Int) < (l.length : Int) from ⟨by omega, by omega⟩), if_pos (show 0 ≤ (i : Int) ∧ (i : Int) < (m.length : Int) from ⟨by omega, by omega⟩)]
      rw [SameCell_at (by omega) (rdT ty0 l i) (rdT ty0 m i), rdT_nat, rdT_nat]
      by_cases he : l.getD i (Ty.dflt ty0) = m.getD i (Ty.dflt ty0)
      · refine .inl ⟨take_eq_succ hI hi (by omega) _ he, ?_⟩
        rw [decide_eq_true he]
        simp only []
        rw [if_neg (by simp), w64_up i (by omega)]
      · refine .inr (.inr ⟨?_, ne_of_getD _ he⟩)
        rw [decide_eq_false he]
        rfl) (fun k hI => by
      rw [List.take_length, hlen, List.take_length] at hI
      refine .inl ⟨?_, hI⟩
      simp only [ref_SameCells_l4]
      rw [if_neg (by simp)]) n (by omega)
    rw [show (0 : Int) = ((0 : Nat) : Int) from rfl]
    rcases a with ⟨a, h⟩ | ⟨a, h⟩
    · rw [a, decide_eq_true h]
    · rw [a, decide_eq_false h]
  · rw [if_pos (by simp; omega), decide_eq_false (fun h => hlen (by rw [h]))]
theorem SameInst_at {n : Nat} (hn : 2 ≤ n) (a b : InstT) : ref_SameInst n (((a.1, a.2, ()), (b.1, b.2, ()), ()), ()) = some ((decide (a = b), ()), ()) := by
  obtain ⟨n, rfl⟩ : ∃ k, n = k + 1 := ⟨n - 1, by omega⟩
  obtain ⟨a1, a2⟩ := a
  obtain ⟨b1, b2⟩ := b
  simp only [ref_SameInst, strEq_iff, Prod.mk.injEq]
  by_cases h1 : a1 = b1
  · rw [if_pos (decide_eq_true h1)]
    by_cases h2 : a2 = b2 <;> simp [h1, h2]
  · rw [if_neg (by simpa using h1)]
    simp [h1]
theorem SameInsts_at {n : Nat} (l m : List InstT) (hn : 10 + l.length ≤ n) (hl : l.length < 1000000000) : ref_SameInsts n ((l, m, ()), ()) = some ((decide (l = m), ()), ()) := by
  obtain ⟨n, rfl⟩ : ∃ k, n = k + 1 := ⟨n - 1, by omega⟩
  simp only [ref_SameInsts]
  by_cases hlen : l.length = m.length
  · rw [if_neg (by simp [hlen])]
    have a := for_inv (F := ref_SameInsts_l4 n) (len := l.length) (st := fun i => ((l, m, (i : Int), ()), ())) (fun i => l.take i = m.take i) (fun r => (r = some (.inl ((), ())) ∧ l = m) ∨ (r = some (.inr (.inl ((false, ()), ()))) ∧ l ≠ m)) (by simp) (fun i k hi hI => by
      simp only [ref_SameInsts_l4]
      rw [if_pos (decide_eq_true (show (i : Int) < (l.length : Int) by omega)), if_pos (show 0 ≤ (i : Int) ∧ (i : Int) < (l.length : Int) from ⟨by omega, by omega⟩), if_pos (show 0 ≤ (i : Int) ∧ (i : Int) < (m.length : Int) from ⟨by omega, by omega⟩)]
      rw [SameInst_at (by omega) (rdT ty2 l i) (rdT ty2 m i), rdT_nat, rdT_nat]
      by_cases he : l.getD i (Ty.dflt ty2) = m.getD i (Ty.dflt ty2)
      · refine .inl ⟨take_eq_succ hI hi (by omega) _ he, ?_⟩
        rw [decide_eq_true he]
        simp only []
        rw [if_neg (by simp), w64_up i (by omega)]
      · refine .inr (.inr ⟨?_, ne_of_getD _ he⟩)
        rw [decide_eq_false he]
        rfl) (fun k hI => by
      rw [List.take_length, hlen, List.take_length] at hI
      refine .inl ⟨?_, hI⟩
      simp only [ref_SameInsts_l4]
      rw [if_neg (by simp)]) n (by omega)
    rw [show (0 : Int) = ((0 : Nat) : Int) from rfl]
    rcases a with ⟨a, h⟩ | ⟨a, h⟩
    · rw [a, decide_eq_true h]
    · rw [a, decide_eq_false h]
  · rw [if_pos (by simp; omega), decide_eq_false (fun h => hlen (by rw [h]))]
theorem SameInstr_at {n : Nat} (hn : 2 ≤ n) (a b : InstrT) : ref_SameInstr n (((a.1, a.2.1, a.2.2.1, a.2.2.2.1, a.2.2.2.2.1, a.2.2.2.2.2, ()), (b.1, b.2.1, b.2.2.1, b.2.2.2.1, b.2.2.2.2.1, b.2.2.2.2.2, ()), ()), ()) = some ((decide (a = b), ()), ()) := by
  obtain ⟨n, rfl⟩ : ∃ k, n = k + 1 := ⟨n - 1, by omega⟩
  obtain ⟨a1, a2, a3, a4, a5, a6⟩ := a
  obtain ⟨b1, b2, b3, b4, b5, b6⟩ := b
  simp only [ref_SameInstr, Prod.mk.injEq]
  by_cases h1 : a1 = b1
  · by_cases h2 : a2 = b2
    · by_cases h3 : a3 = b3
      · by_cases h4 : a4 = b4
        · by_cases h5 : a5 = b5
          · by_cases h6 : a6 = b6 <;> simp [h1, h2, h3, h4, h5, h6]
          · simp [h1, h2, h3, h4, h5]
        · simp [h1, h2, h3, h4]
      · simp [h1, h2, h3]
    · simp [h1, h2]
  · simp [h1]
theorem SameInstrs_at {n : Nat} (l m : List InstrT) (hn : 10 + l.length ≤ n) (hl : l.length < 1000000000) : ref_SameInstrs n ((l, m, ()), ()) = some ((decide (l = m), ()), ()) := by
  obtain ⟨n, rfl⟩ : ∃ k, n = k + 1 := ⟨n - 1, by omega⟩
  simp only [ref_SameInstrs]
  by_cases hlen : l.length = m.length
  · rw [if_neg (by simp [hlen])]
    have a := for_inv (F := ref_SameInstrs_l4 n) (len := l.length) (st := fun i => ((l, m, (i : Int), ()), ())) (fun i => l.take i = m.take i) (fun r => (r = some (.inl ((), ())) ∧ l = m) ∨ (r = some (.inr (.inl ((false, ()), ()))) ∧ l ≠ m)) (by simp) (fun i k hi hI => by
      simp only [ref_SameInstrs_l4]
      rw [if_pos (decide_eq_true (show (i : Int) < (l.length : Int) by omega)), if_pos (show 0 ≤ (i : Int) ∧ (i : Int) < (l.length : Int) from ⟨by omega, by omega⟩), if_pos (show 0 ≤ (i : Int) ∧ (i : Int) < (m.length : Int) from ⟨by omega, by omega⟩)]
      rw [SameInstr_at (by omega) (rdT ty4 l i) (rdT ty4 m i), rdT_nat, rdT_nat]
      by_cases he : l.getD i (Ty.dflt ty4) = m.getD i (Ty.dflt ty4)
      · refine .inl ⟨take_eq_succ hI hi (by omega) _ he, ?_⟩
        rw [decide_eq_true he]
        simp only []
        rw [if_neg (by simp), w64_up i (by omega)]
      · refine .inr (.inr ⟨?_, ne_of_getD _ he⟩)
        rw [decide_eq_false he]
        rfl) (fun k hI => by
      rw [List.take_length, hlen, List.take_length] at hI
      refine .inl ⟨?_, hI⟩
      simp only [ref_SameInstrs_l4]
      rw [if_neg (by simp)]) n (by omega)
    rw [show (0 : Int) = ((0 : Nat) : Int) from rfl]
    rcases a with ⟨a, h⟩ | ⟨a, h⟩
    · rw [a, decide_eq_true h]
    · rw [a, decide_eq_false h]
  · rw [if_pos (by simp; omega), decide_eq_false (fun h => hlen (by rw [h]))]
theorem SameObject_at {n : Nat} (hn : 1000 ≤ n) (x1 : ByteArray) (x2 x3 : List Int) (x4 : Int) (x5 : List CellT) (x6 : List InstT) (x7 : List InstrT) (y1 : ByteArray) (y2 y3 : List Int) (y4 : Int) (y5 : List CellT) (y6 : List InstT) (y7 : List InstrT) (ok : ObjOk x1 x2 x3 x4 x5 x6 x7) :
    ref_SameObject n (((x1, x2, x3, x4, x5, x6, x7, ()), (y1, y2, y3, y4, y5, y6, y7, ()), ()), ()) = some ((decide (x1 = y1 ∧ x2 = y2 ∧ x3 = y3 ∧ x4 = y4 ∧ x5 = y5 ∧ x6 = y6 ∧ x7 = y7), ()), ()) := by
  obtain ⟨n, rfl⟩ : ∃ k, n = k + 1 := ⟨n - 1, by omega⟩
  obtain ⟨n1, n2, n3, n5, n6, n7, -, -⟩ := ok
  simp only [ref_SameObject, SameInts_at (n := n) x2 y2 (by omega) (by omega), SameInts_at (n := n) x3 y3 (by omega) (by omega), SameCells_at (n := n) x5 y5 (by omega) (by omega), SameInsts_at (n := n) x6 y6 (by omega) (by omega), SameInstrs_at (n := n) x7 y7 (by omega) (by omega), strEq_iff]
  by_cases h2 : x2 = y2
  · by_cases h3 : x3 = y3
    · by_cases h5 : x5 = y5
      · by_cases h6 : x6 = y6
        · by_cases h7 : x7 = y7
          · by_cases h1 : x1 = y1
            · by_cases h4 : x4 = y4 <;> simp [h1, h2, h3, h4, h5, h6, h7]
            · simp [h1, h2, h3, h5, h6, h7]
          · simp [h2, h3, h5, h6, h7]
        · simp [h2, h3, h5, h6]
      · simp [h2, h3, h5]
    · simp [h2, h3]
  · simp [h2]
end Go.Proofs.YtgbpbmdhphfdgaaDoor.Pure
