/- SchedFits, in plain words: what Needs answers. By this session. -/
import Derived.Test.YtgdolcaijbkaeaaDoorSchedFitsA
namespace Go.Proofs.YtgdolcaijbkaeaaDoor.Pure
open Go Go.Proofs.YtgdolcaijbkaeaaDoor.Cm
open Classical
set_option linter.unusedVariables false
set_option maxRecDepth 100000
theorem len_compS (l : SL) : (compS l).length ≤ l.length := by
  unfold compS Lib.compact Lib.compactUpTo
  rw [List.length_map, List.length_map, List.length_map]
  have := List.length_filter_le (Lib.keeps (l.map fun q : ByteArray => q.data.toList).toArray) (List.range l.length)
  simpa using this
theorem c7_at (p : PL) (h : (argsOf p).length ≤ 10) : ∃ a : List ty7.T, a.length ≤ 10 ∧ ∀ n, sched_Needs_c7 n (((), argsOf p, ()), (tp p, ())) = some (.inl (((), a, ()), (tp p, ()))) := by
  by_cases h1 : (p.2.1 == 23) = true
  · exact ⟨[], by simp, fun n => by rw [sched_Needs_c7, if_pos h1]⟩
  by_cases h2 : (p.2.1 == 21) = true
  · have hm : mn 1 ((argsOf p).length : Int) = ((min 1 (argsOf p).length : Nat) : Int) := by unfold mn; split <;> omega
    refine ⟨cutL (argsOf p) 0 (mn 1 ((argsOf p).length : Int)), ?_, fun n => ?_⟩
    · rw [hm]
      have := cutL_len (argsOf p) 0 (min 1 (argsOf p).length) (Nat.zero_le _) (by omega)
      have h0 : ((0 : Nat) : Int) = 0 := rfl
      rw [← h0, this]
      omega
    · rw [sched_Needs_c7, if_neg h1, if_pos h2, if_pos (by rw [hm]; omega)]
  · exact ⟨argsOf p, h, fun n => by rw [sched_Needs_c7, if_neg h1, if_neg h2]⟩
theorem l9_at (p : PL) (a : List ty7.T) (ha : a.length ≤ 10) : ∀ d i (out : SL), i + d = a.length → out.length + d ≤ 30 → ∃ o : SL, o.length ≤ out.length + d ∧ ∀ n k, d < k → sched_Needs_l9 n k (((), (), a, (a.length : Int), (i : Int), ()), (tp p, out, ())) = some (.inl (((), (), ()), (tp p, o, ()))) := by
  intro d
  induction d with
  | zero =>
    intro i out hi ho
    obtain rfl : i = a.length := by omega
    refine ⟨out, by omega, fun n k hk => ?_⟩
    obtain ⟨k, rfl⟩ : ∃ q, k = q + 1 := ⟨k - 1, by omega⟩
    rw [sched_Needs_l9, if_neg (by simp)]
  | succ d ih =>
    intro i out hi ho
    by_cases h : (!strEq ((rdT ty7 a (i : Int)).1) (⟨#[]⟩ : ByteArray)) = true
    · obtain ⟨o, h1, h2⟩ := ih (i + 1) (out ++ [(rdT ty7 a (i : Int)).1]) (by omega) (by simp; omega)
      refine ⟨o, by simp at h1; omega, fun n k hk => ?_⟩
      obtain ⟨k, rfl⟩ : ∃ q, k = q + 1 := ⟨k - 1, by omega⟩
      rw [sched_Needs_l9, if_pos (decide_eq_true (show (i : Int) < (a.length : Int) by omega)), if_pos (show (0 : Int) ≤ (i : Int) ∧ (i : Int) < (a.length : Int) by omega), if_pos h, if_pos (by simp; omega)]
      dsimp only
      rw [w64_up i (by omega)]
      exact h2 n k (by omega)
    · obtain ⟨o, h1, h2⟩ := ih (i + 1) out (by omega) (by omega)
      refine ⟨o, by omega, fun n k hk => ?_⟩
      obtain ⟨k, rfl⟩ : ∃ q, k = q + 1 := ⟨k - 1, by omega⟩
      rw [sched_Needs_l9, if_pos (decide_eq_true (show (i : Int) < (a.length : Int) by omega)), if_pos (show (0 : Int) ≤ (i : Int) ∧ (i : Int) < (a.length : Int) by omega), if_neg h]
      dsimp only
      rw [w64_up i (by omega)]
      exact h2 n k (by omega)
theorem c16_at (p : PL) (l : SL) (hl : l.length ≤ 50) : ∃ o : SL, o.length ≤ l.length + 1 ∧ ∀ n, sched_Needs_c16 n (((), (), ()), (tp p, l, ())) = some (.inl (((), (), ()), (tp p, o, ()))) := by
  by_cases h1 : (p.2.1 == 24) = true
  · exact ⟨l ++ [p.2.2.1], by simp, fun n => by rw [sched_Needs_c16, if_pos h1, if_pos (by simp; omega)]⟩
  by_cases h2 : (p.2.1 == 25) = true
  · exact ⟨l ++ [p.2.2.1], by simp, fun n => by rw [sched_Needs_c16, if_neg h1, if_pos h2, if_pos (by simp; omega)]⟩
  · exact ⟨l, by simp, fun n => by rw [sched_Needs_c16, if_neg h1, if_neg h2]⟩
theorem c18_at (p : PL) (l : SL) (hl : l.length ≤ 50) : ∃ o : SL, o.length ≤ l.length + 1 ∧ ∀ n, sched_Needs_c18 n (((), (), ()), (tp p, l, ())) = some (.inl (((), (), ()), (tp p, o, ()))) := by
  by_cases h1 : (!strEq p.2.2.2.2.2.2.2.2 (⟨#[]⟩ : ByteArray)) = true
  · exact ⟨l ++ [p.2.2.2.2.2.2.2.2], by simp, fun n => by rw [sched_Needs_c18, if_pos h1, if_pos (by simp; omega)]⟩
  · exact ⟨l, by simp, fun n => by rw [sched_Needs_c18, if_neg h1]⟩
theorem l19_at (a : List ty11.T) (ha : a.length ≤ 10) : ∀ d i (out : SL), i + d = a.length → out.length + d ≤ 50 → ∃ o : SL, o.length ≤ out.length + d ∧ ∀ n k, d < k → sched_Needs_l19 n k (((), a, (a.length : Int), (i : Int), ()), (out, ())) = some (.inl (((), ()), (o, ()))) := by
  intro d
  induction d with
  | zero =>
    intro i out hi ho
    obtain rfl : i = a.length := by omega
    refine ⟨out, by omega, fun n k hk => ?_⟩
    obtain ⟨k, rfl⟩ : ∃ q, k = q + 1 := ⟨k - 1, by omega⟩
    rw [sched_Needs_l19, if_neg (by simp)]
  | succ d ih =>
    intro i out hi ho
    obtain ⟨o, h1, h2⟩ := ih (i + 1) (out ++ [(rdT ty11 a (i : Int)).1]) (by omega) (by simp; omega)
    refine ⟨o, by simp at h1; omega, fun n k hk => ?_⟩
    obtain ⟨k, rfl⟩ : ∃ q, k = q + 1 := ⟨k - 1, by omega⟩
    rw [sched_Needs_l19, if_pos (decide_eq_true (show (i : Int) < (a.length : Int) by omega)), if_pos (show (0 : Int) ≤ (i : Int) ∧ (i : Int) < (a.length : Int) by omega), if_pos (by simp; omega)]
    dsimp only
    rw [w64_up i (by omega)]
    exact h2 n k (by omega)
theorem needs_ex (p : PL) (h : Small p) : ∃ L : SL, L.length ≤ 30 ∧ ∀ n, 60 < n → sched_Needs n ((tp p, ()), ()) = some (((), ()), (L, ())) := by
  obtain ⟨a, ha, e1⟩ := c7_at p h.2.1
  obtain ⟨o1, h1, e2⟩ := l9_at p a ha a.length 0 [] (by omega) (by simp; omega)
  have h1 : o1.length ≤ 10 := by simp at h1; omega
  obtain ⟨o2, h2, e3⟩ := c16_at p o1 (by omega)
  obtain ⟨o3, h3, e4⟩ := c18_at p o2 (by omega)
  obtain ⟨o4, h4, e5⟩ := l19_at (clksOf p) h.2.2 (clksOf p).length 0 o3 (by omega) (by have := h.2.2; omega)
  have hc := h.2.2
  have h5 : (sortS o4).length = o4.length := (sortS_perm o4).length_eq
  refine ⟨compS (sortS o4), by have := len_compS (sortS o4); omega, fun n hn => ?_⟩
  obtain ⟨n, rfl⟩ : ∃ q, n = q + 1 := ⟨n - 1, by omega⟩
  have e1' : sched_Needs_c7 n (((), p.2.2.2.2.1, ()), ((p.1, p.2.1, p.2.2.1, p.2.2.2.1, p.2.2.2.2.1, p.2.2.2.2.2.1, p.2.2.2.2.2.2.1, p.2.2.2.2.2.2.2.1, p.2.2.2.2.2.2.2.2, ()), ())) = _ := e1 n
  have e2' : sched_Needs_l9 n n (((), (), a, (a.length : Int), 0, ()), ((p.1, p.2.1, p.2.2.1, p.2.2.2.1, p.2.2.2.2.1, p.2.2.2.2.2.1, p.2.2.2.2.2.2.1, p.2.2.2.2.2.2.2.1, p.2.2.2.2.2.2.2.2, ()), [], ())) = _ := e2 n n (by omega)
  have e5' : sched_Needs_l19 n n (((), clksOf p, ((clksOf p).length : Int), 0, ()), (o3, ())) = _ := e5 n n (by omega)
  have e6 : slices_Sort_string n (((), ()), (o4, ())) = some (((), ()), (sortS o4, ())) := by
    show sortSem 9 _ = _
    unfold sortSem
    rw [if_pos (show o4.length ≤ 140737488355328 by omega)]
  have e7 : slices_Compact_string n (((), ()), (sortS o4, ())) = some (((), ()), ((), compS (sortS o4), ())) := by
    show compSem 9 _ = _
    unfold compSem
    rw [if_pos (show (sortS o4).length ≤ 140737488355328 by omega)]
  rw [sched_Needs, e1']
  dsimp only
  rw [e2']
  dsimp only
  rw [e3 n]
  dsimp only
  rw [e4 n]
  dsimp only
  rw [e5']
  dsimp only
  rw [e6]
  dsimp only
  rw [e7]
noncomputable def need (p : PL) : SL := if h : ∃ L : SL, L.length ≤ 30 ∧ ∀ n, 60 < n → sched_Needs n ((tp p, ()), ()) = some (((), ()), (L, ())) then Classical.choose h else []
theorem need_at {p : PL} (h : Small p) {n : Nat} (hn : 60 < n) : sched_Needs n ((tp p, ()), ()) = some (((), ()), (need p, ())) := by
  unfold need
  rw [dif_pos (needs_ex p h)]
  exact (Classical.choose_spec (needs_ex p h)).2 n hn
theorem need_len (p : PL) : (need p).length ≤ 30 := by
  unfold need
  split
  · rename_i h
    exact (Classical.choose_spec h).1
  · simp
end Go.Proofs.YtgdolcaijbkaeaaDoor.Pure
