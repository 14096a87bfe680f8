/- DepsSays, in plain words: what is amiss with nodes, both ways. By this session. -/
import Derived.Test.YtnajjhjbkanigaaDoorDepsSaysK
namespace Go.Proofs.YtnajjhjbkanigaaDoor.Pure
open Go Go.Proofs.YtnajjhjbkanigaaDoor.Cm
open Classical
set_option linter.unusedVariables false
set_option linter.unusedSimpArgs false
set_option maxRecDepth 100000
abbrev WT := Int × Bool × Bool × Int × Int × Unit
abbrev noW : WT := (0, false, false, 0, 0, ())
abbrev atW (i : Int) : WT := (110, true, false, i, 0, ())
theorem placed_at {n : Nat} (hn : 5 < n) (i : Int) : ref_Placed n ((110, i, ()), ()) = some ((atW i, ()), ()) := by
  obtain ⟨n, rfl⟩ : ∃ q, n = q + 1 := ⟨n - 1, by omega⟩
  rw [ref_Placed, if_neg (by decide)]
/-- Does this name stand ahead, from a place on? -/
def dup (l : List NodeT) (i j : Nat) : Prop := ∃ q, j ≤ q ∧ q < i ∧ (l.getD q (Ty.dflt ty0)).1 = (l.getD i (Ty.dflt ty0)).1
theorem dup_step {l : List NodeT} {i j : Nat} (hj : j < i) : dup l i j ↔ (l.getD j (Ty.dflt ty0)).1 = (l.getD i (Ty.dflt ty0)).1 ∨ dup l i (j + 1) := by
  constructor
  · rintro ⟨q, h1, h2, h3⟩
    by_cases e : q = j
    · rw [e] at h3; exact .inl h3
    · exact .inr ⟨q, by omega, h2, h3⟩
  · rintro (h | ⟨q, h1, h2, h3⟩)
    · exact ⟨j, by omega, hj, h⟩
    · exact ⟨q, by omega, h2, h3⟩
noncomputable def wDup (l : List NodeT) (i j : Nat) (w : WT) : WT := if dup l i j then atW i else w
theorem wDup_end {l : List NodeT} {i : Nat} {w : WT} : wDup l i i w = w := by
  unfold wDup
  rw [if_neg]
  rintro ⟨q, h1, h2, _⟩
  omega
theorem wDup_hit {l : List NodeT} {i j : Nat} {w : WT} (hj : j < i) (h : (l.getD j (Ty.dflt ty0)).1 = (l.getD i (Ty.dflt ty0)).1) : wDup l i (j + 1) (atW i) = wDup l i j w := by
  unfold wDup
  rw [if_pos (c := dup l i j) ((dup_step hj).2 (.inl h))]
  split <;> rfl
theorem wDup_miss {l : List NodeT} {i j : Nat} {w : WT} (hj : j < i) (h : (l.getD j (Ty.dflt ty0)).1 ≠ (l.getD i (Ty.dflt ty0)).1) : wDup l i (j + 1) w = wDup l i j w := by
  unfold wDup
  by_cases e : dup l i (j + 1)
  · rw [if_pos e, if_pos ((dup_step hj).2 (.inr e))]
  · rw [if_neg e, if_neg (fun q => ((dup_step hj).1 q).elim h e)]
theorem l12_at {n : Nat} {l : List NodeT} (x : ByteArray) (e : ErrV) (m : GM) {i : Nat} (hi : i < l.length) (hl : l.length ≤ 1000) (hn : 10 < n) : ∀ d j k (w : WT), j + d = i → d < k → law24_DepsSays_l12 n k ((l, x, (), e, (), (i : Int), (j : Int), ()), (((), ()), w, m, ())) = some (.inl ((l, x, (), e, (), (i : Int), ()), (((), ()), wDup l i j w, m, ()))) := by
  intro d
  induction d with
  | zero =>
    intro j k w hj hk
    obtain ⟨k, rfl⟩ : ∃ q, k = q + 1 := ⟨k - 1, by omega⟩
    obtain rfl : j = i := by omega
    obtain ⟨w1, w2, w3, w4, w5, ⟨⟩⟩ := w
    rw [wDup_end, law24_DepsSays_l12, if_neg (by simp)]
  | succ d ih =>
    intro j k w hj hk
    obtain ⟨k, rfl⟩ : ∃ q, k = q + 1 := ⟨k - 1, by omega⟩
    have h1 : rdT ty0 l (i : Int) = l.getD i (Ty.dflt ty0) := rfl
    have h2 : rdT ty0 l (j : Int) = l.getD j (Ty.dflt ty0) := rfl
    obtain ⟨w1, w2, w3, w4, w5, ⟨⟩⟩ := w
    rw [law24_DepsSays_l12, if_pos (decide_eq_true (show (j : Int) < (i : Int) by omega)), if_pos (show 0 ≤ (j : Int) ∧ (j : Int) < (l.length : Int) from ⟨by omega, by omega⟩), if_pos (show 0 ≤ (i : Int) ∧ (i : Int) < (l.length : Int) from ⟨by omega, by omega⟩), h1, h2, strEq_iff]
    by_cases he : (l.getD j (Ty.dflt ty0)).1 = (l.getD i (Ty.dflt ty0)).1
    · rw [if_pos (decide_eq_true he), placed_at (by omega)]
      simp only []
      rw [w64_up j (by omega), ← wDup_hit (w := (w1, w2, w3, w4, w5, ())) (show j < i by omega) he]
      exact ih (j + 1) k (atW i) (by omega) (by omega)
    · rw [if_neg (by simpa using he), w64_up j (by omega), ← wDup_miss (w := (w1, w2, w3, w4, w5, ())) (show j < i by omega) he]
      exact ih (j + 1) k _ (by omega) (by omega)
theorem l12b_at {n : Nat} {l : List NodeT} (x : ByteArray) (e : ErrV) {i : Nat} (hi : i < l.length) (hl : l.length ≤ 1000) (hn : 10 < n) : ∀ d j k (w : WT), j + d = i → d < k → law24_DepsSays_l12b n k ((l, x, (), e, (), (i : Int), (j : Int), ()), (w, ())) = some (.inl ((l, x, (), e, (), (i : Int), ()), (wDup l i j w, ()))) := by
  intro d
  induction d with
  | zero =>
    intro j k w hj hk
    obtain ⟨k, rfl⟩ : ∃ q, k = q + 1 := ⟨k - 1, by omega⟩
    obtain rfl : j = i := by omega
    obtain ⟨w1, w2, w3, w4, w5, ⟨⟩⟩ := w
    rw [wDup_end, law24_DepsSays_l12b, if_neg (by simp)]
  | succ d ih =>
    intro j k w hj hk
    obtain ⟨k, rfl⟩ : ∃ q, k = q + 1 := ⟨k - 1, by omega⟩
    have h1 : rdT ty0 l (i : Int) = l.getD i (Ty.dflt ty0) := rfl
    have h2 : rdT ty0 l (j : Int) = l.getD j (Ty.dflt ty0) := rfl
    obtain ⟨w1, w2, w3, w4, w5, ⟨⟩⟩ := w
    rw [law24_DepsSays_l12b, if_pos (decide_eq_true (show (j : Int) < (i : Int) by omega)), if_pos (show 0 ≤ (j : Int) ∧ (j : Int) < (l.length : Int) from ⟨by omega, by omega⟩), if_pos (show 0 ≤ (i : Int) ∧ (i : Int) < (l.length : Int) from ⟨by omega, by omega⟩), h1, h2, strEq_iff]
    by_cases he : (l.getD j (Ty.dflt ty0)).1 = (l.getD i (Ty.dflt ty0)).1
    · rw [if_pos (decide_eq_true he), placed_at (by omega)]
      simp only []
      rw [w64_up j (by omega), ← wDup_hit (w := (w1, w2, w3, w4, w5, ())) (show j < i by omega) he]
      exact ih (j + 1) k (atW i) (by omega) (by omega)
    · rw [if_neg (by simpa using he), w64_up j (by omega), ← wDup_miss (w := (w1, w2, w3, w4, w5, ())) (show j < i by omega) he]
      exact ih (j + 1) k _ (by omega) (by omega)
theorem no_dup {l : List NodeT} {i : Nat} (h : ((l.take (i + 1)).map (·.1)).Nodup) (hi : i < l.length) : ¬ dup l i 0 := by
  rintro ⟨q, _, h2, h3⟩
  have := nodup_ne (l := l.take (i + 1)) (Ty.dflt ty0) h h2 (by rw [List.length_take]; omega)
  rw [getD_take _ (by omega), getD_take _ (by omega)] at this
  exact this h3
/-- No name comes twice: nothing is amiss. -/
theorem l9_none {n : Nat} {l : List NodeT} (x : ByteArray) (e : ErrV) (m : GM) (hl : l.length ≤ 1000) (hn : 2000 < n) (h : (l.map (·.1)).Nodup) : law24_DepsSays_l9 n n ((l, x, (), e, (), 0, ()), (((), ()), noW, m, ())) = some (.inl ((l, x, (), e, (), ()), (((), ()), noW, m, ()))) := by
  exact for_all (F := law24_DepsSays_l9 n) (len := l.length) (fun i => ((l, x, (), e, (), (i : Int), ()), (((), ()), noW, m, ()))) (fun i k hi => by
    have hw : wDup l i 0 noW = noW := by
      unfold wDup
      rw [if_neg]
      refine no_dup ?_ hi
      rw [List.map_take]
      exact List.Sublist.nodup (List.take_sublist _ _) h
    have a := l12_at (n := n) x e m hi hl (by omega) i 0 n noW (by omega) (by omega)
    rw [hw] at a
    rw [law24_DepsSays_l9, if_pos (decide_eq_true (show (i : Int) < (l.length : Int) by omega)), if_pos (by decide), show law24_DepsSays_l12 n n ((l, x, (), e, (), (i : Int), 0, ()), (((), ()), (0, false, false, 0, 0, ()), m, ())) = _ from a]
    simp only []
    rw [w64_up i (by omega)]) (fun k => by rw [law24_DepsSays_l9, if_neg (by simp)]) (by omega)
/-- The first that comes twice. -/
theorem l9b_at {n : Nat} {l : List NodeT} (x : ByteArray) (e : ErrV) (hl : l.length ≤ 1000) (hn : 2000 < n) {i : Nat} (hi : i < l.length) (h : ((l.take i).map (·.1)).Nodup) (hd : dup l i 0) : law24_DepsSays_l9b n n ((l, x, (), e, (), 0, ()), (noW, ())) = some (.inl ((l, x, (), e, (), ()), (atW i, ()))) := by
  have main : ∀ d j k, j + d = i → d + 1 < k → law24_DepsSays_l9b n k ((l, x, (), e, (), (j : Int), ()), (noW, ())) = some (.inl ((l, x, (), e, (), ()), (atW i, ()))) := by
    intro d
    induction d with
    | zero =>
      intro j k hj hk
      obtain ⟨k, rfl⟩ : ∃ q, k = q + 2 := ⟨k - 2, by omega⟩
      obtain rfl : j = i := by omega
      have a := l12b_at (n := n) x e hi hl (by omega) j 0 n noW (by omega) (by omega)
      rw [show wDup l j 0 noW = atW j from if_pos hd] at a
      rw [show k + 2 = (k + 1) + 1 from rfl, law24_DepsSays_l9b, if_pos (decide_eq_true (show (j : Int) < (l.length : Int) by omega)), if_pos (by decide), show law24_DepsSays_l12b n n ((l, x, (), e, (), (j : Int), 0, ()), ((0, false, false, 0, 0, ()), ())) = _ from a]
      simp only []
      rw [w64_up j (by omega), law24_DepsSays_l9b]
      by_cases q : ((j + 1 : Nat) : Int) < (l.length : Int)
      · rw [if_pos (decide_eq_true q), if_neg (by decide)]
      · rw [if_neg (by simpa using q)]
    | succ d ih =>
      intro j k hj hk
      obtain ⟨k, rfl⟩ : ∃ q, k = q + 1 := ⟨k - 1, by omega⟩
      have hw : wDup l j 0 noW = noW := by
        unfold wDup
        rw [if_neg]
        refine no_dup ?_ (by omega)
        have : l.take (j + 1) = (l.take i).take (j + 1) := by rw [List.take_take, Nat.min_eq_left (by omega)]
        rw [this, List.map_take]
        exact List.Sublist.nodup (List.take_sublist _ _) h
      have a := l12b_at (n := n) x e (show j < l.length by omega) hl (by omega) j 0 n noW (by omega) (by omega)
      rw [hw] at a
      rw [law24_DepsSays_l9b, if_pos (decide_eq_true (show (j : Int) < (l.length : Int) by omega)), if_pos (by decide), show law24_DepsSays_l12b n n ((l, x, (), e, (), (j : Int), 0, ()), ((0, false, false, 0, 0, ()), ())) = _ from a]
      simp only []
      rw [w64_up j (by omega)]
      exact ih (j + 1) k (by omega) (by omega)
  exact main i 0 n (by omega) (by omega)
/-- It answers, whatever. -/
theorem l9b_any {n : Nat} {l : List NodeT} (x : ByteArray) (e : ErrV) (hl : l.length ≤ 1000) (hn : 2000 < n) : ∃ w : WT, law24_DepsSays_l9b n n ((l, x, (), e, (), 0, ()), (noW, ())) = some (.inl ((l, x, (), e, (), ()), (w, ()))) := by
  have main : ∀ d j k (w : WT), j + d = l.length → d < k → ∃ w' : WT, law24_DepsSays_l9b n k ((l, x, (), e, (), (j : Int), ()), (w, ())) = some (.inl ((l, x, (), e, (), ()), (w', ()))) := by
    intro d
    induction d with
    | zero =>
      intro j k w hj hk
      obtain ⟨k, rfl⟩ : ∃ q, k = q + 1 := ⟨k - 1, by omega⟩
      obtain ⟨w1, w2, w3, w4, w5, ⟨⟩⟩ := w
      exact ⟨_, by rw [law24_DepsSays_l9b, if_neg (by simp; omega)]⟩
    | succ d ih =>
      intro j k w hj hk
      obtain ⟨k, rfl⟩ : ∃ q, k = q + 1 := ⟨k - 1, by omega⟩
      have a := l12b_at (n := n) x e (show j < l.length by omega) hl (by omega) j 0 n w (by omega) (by omega)
      obtain ⟨w1, w2, w3, w4, w5, ⟨⟩⟩ := w
      rw [law24_DepsSays_l9b, if_pos (decide_eq_true (show (j : Int) < (l.length : Int) by omega))]
      by_cases q : (w1 == 0) = true
      · rw [if_pos q, show law24_DepsSays_l12b n n ((l, x, (), e, (), (j : Int), 0, ()), ((w1, w2, w3, w4, w5, ()), ())) = _ from a]
        generalize wDup l j 0 (w1, w2, w3, w4, w5, ()) = w2
        obtain ⟨v1, v2, v3, v4, v5, ⟨⟩⟩ := w2
        simp only []
        rw [w64_up j (by omega)]
        exact ih (j + 1) k _ (by omega) (by omega)
      · rw [if_neg q]
        exact ⟨_, rfl⟩
  exact main l.length 0 n noW (by omega) (by omega)
/-! ### errors told -/
theorem fault_at {n : Nat} (hn : 200 ≤ n) (i : Int) : pendulumsee_Fault n ((ErrV.at_ i (ErrV.sent 110), ()), ()) = some ((atW i, ()), ()) := by
  obtain ⟨n, rfl⟩ : ∃ m, n = m + 100 := ⟨n - 100, by omega⟩
  kernel_rfl
theorem same_at {n : Nat} (hn : 300 ≤ n) (i : Int) : pendulumsee_Same n ((ErrV.at_ i (ErrV.sent 110), atW i, ()), ()) = some ((true, ()), ()) := by
  obtain ⟨n, rfl⟩ : ∃ m, n = m + 2 := ⟨n - 2, by omega⟩
  rw [pendulumsee_Same, fault_at (by omega)]
  simp only []
  rw [ref_SameFault, if_pos (by decide), if_pos (by decide), if_pos (by simp), if_pos (by decide)]
  rfl
theorem same_many {n : Nat} (hn : 300 ≤ n) : pendulumsee_Same n ((ErrV.sent 103, (103, false, false, 0, 0, ()), ()), ()) = some ((true, ()), ()) := by
  obtain ⟨n, rfl⟩ : ∃ m, n = m + 200 := ⟨n - 200, by omega⟩
  kernel_rfl
theorem same_none {n : Nat} (hn : 300 ≤ n) : pendulumsee_Same n ((ErrV.nil, (0, false, false, 0, 0, ()), ()), ()) = some ((true, ()), ()) := by
  obtain ⟨n, rfl⟩ : ∃ m, n = m + 200 := ⟨n - 200, by omega⟩
  kernel_rfl
theorem is_none {n : Nat} (hn : 300 ≤ n) : pendulumsee_Is n ((ErrV.sent 116, 116, ()), ()) = some ((true, ()), ()) := by
  obtain ⟨n, rfl⟩ : ∃ m, n = m + 200 := ⟨n - 200, by omega⟩
  kernel_rfl
theorem is_loop {n : Nat} (hn : 300 ≤ n) : pendulumsee_Is n ((ErrV.sent 113, 113, ()), ()) = some ((true, ()), ()) := by
  obtain ⟨n, rfl⟩ : ∃ m, n = m + 200 := ⟨n - 200, by omega⟩
  kernel_rfl
theorem is_fine {n : Nat} (hn : 300 ≤ n) : pendulumsee_Is n ((ErrV.nil, 0, ()), ()) = some ((true, ()), ()) := by
  obtain ⟨n, rfl⟩ : ∃ m, n = m + 200 := ⟨n - 200, by omega⟩
  kernel_rfl
end Go.Proofs.YtnajjhjbkanigaaDoor.Pure
