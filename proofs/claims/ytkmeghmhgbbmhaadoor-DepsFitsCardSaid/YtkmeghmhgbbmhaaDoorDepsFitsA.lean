/- DepsFits, in plain words: what the small functions answer. By this session. -/
import Derived.Test.YtkmeghmhgbbmhaaDoorCDepsFitsR
import Derived.Test.YtkmeghmhgbbmhaaDoorCmPl
import Derived.KernelRfl
namespace Go.Proofs.YtkmeghmhgbbmhaaDoor.Pure
open Go Go.Proofs.YtkmeghmhgbbmhaaDoor.Cm
open Classical
set_option linter.unusedVariables false
set_option maxRecDepth 100000
abbrev SL := List ByteArray
abbrev GM := List (ByteArray × List ByteArray)
def mget (m : GM) (s : ByteArray) : SL := (mfind (keyEq (.str : Ty)) s m).getD []
theorem scan {R : Type} {len : Nat} {F : Nat → Nat → R} {p : Nat → Bool} {found : Nat → R} {miss : R} (step : ∀ k i, i < len → F (k + 1) i = if p i then found i else F k (i + 1)) (last : ∀ k, F (k + 1) len = miss) :
    ∀ d k i, i + d = len → d < k → (∃ j, i ≤ j ∧ j < len ∧ p j = true ∧ F k i = found j) ∨ ((∀ j, i ≤ j → j < len → p j = false) ∧ F k i = miss) := by
  intro d
  induction d with
  | zero =>
    intro k i hi hk
    obtain ⟨k, rfl⟩ : ∃ q, k = q + 1 := ⟨k - 1, by omega⟩
    obtain rfl : i = len := by omega
    exact .inr ⟨fun j h1 h2 => by omega, last k⟩
  | succ d ih =>
    intro k i hi hk
    obtain ⟨k, rfl⟩ : ∃ q, k = q + 1 := ⟨k - 1, by omega⟩
    rw [step k i (by omega)]
    cases hp : p i with
    | true => exact .inl ⟨i, Nat.le_refl _, by omega, hp, by simp⟩
    | false =>
      simp only [Bool.false_eq_true, if_false]
      rcases ih k (i + 1) (by omega) (by omega) with ⟨j, h1, h2, h3, h4⟩ | ⟨h1, h2⟩
      · exact .inl ⟨j, by omega, h2, h3, h4⟩
      · refine .inr ⟨fun j h3 h4 => ?_, h2⟩
        by_cases e : j = i
        · rw [e]; exact hp
        · exact h1 j (by omega) h4
theorem mem_getD {l : SL} {x : ByteArray} : x ∈ l ↔ ∃ j, j < l.length ∧ l.getD j ByteArray.empty = x := by
  constructor
  · intro h
    obtain ⟨j, hj, e⟩ := List.mem_iff_getElem.1 h
    exact ⟨j, hj, by rw [List.getD_eq_getElem?_getD, List.getElem?_eq_getElem hj]; exact e⟩
  · rintro ⟨j, hj, rfl⟩
    exact getD_mem l j hj _
/-- slices.Index: is it there? -/
theorem index_at {n : Nat} {l : SL} (x : ByteArray) (hn : l.length + 1 < n) (hN : n < 1000000) : (x ∈ l ∧ ∃ j : Nat, j < l.length ∧ slices_Index_string_string n (((), x, ()), (l, ())) = some (((j : Int), ()), (l, ()))) ∨ (x ∉ l ∧ slices_Index_string_string n (((), x, ()), (l, ())) = some (((-1), ()), (l, ()))) := by
  obtain ⟨n, rfl⟩ : ∃ q, n = q + 1 := ⟨n - 1, by omega⟩
  have h := scan (len := l.length) (F := fun k i => slices_Index_string_string_l2 n k (((), x, (l.length : Int), (i : Int), ()), (l, ()))) (p := fun i => strEq x (l.getD i ByteArray.empty)) (found := fun i => some (.inr (.inl (((i : Int), ()), (l, ()))))) (miss := some (.inl ((), (l, ()))))
    (fun k i hi => by
      show slices_Index_string_string_l2 n (k + 1) _ = _
      rw [slices_Index_string_string_l2, if_pos (decide_eq_true (show (i : Int) < (l.length : Int) by omega)), if_pos (show (0 : Int) ≤ (i : Int) ∧ (i : Int) < (l.length : Int) by omega), rdT_nat, w64_up i (by omega)]
      rfl)
    (fun k => by
      show slices_Index_string_string_l2 n (k + 1) _ = _
      rw [slices_Index_string_string_l2, if_neg (by simp)]) l.length n 0 (by omega) (by omega)
  rcases h with ⟨j, _, h2, h3, h4⟩ | ⟨h3, h4⟩
  · left
    simp only [strEq_iff, decide_eq_true_eq] at h3
    refine ⟨mem_getD.2 ⟨j, h2, h3.symm⟩, j, h2, ?_⟩
    rw [slices_Index_string_string]
    exact (congrArg (fun r => match r with | some (.inl (_, (l3, _))) => some (((-1), ()), (l3, ())) | some (.inr (.inl ((x4, _), (l5, _)))) => some ((x4, ()), (l5, ())) | some (.inr (.inr (_))) => none | none => none) h4)
  · right
    refine ⟨fun hm => ?_, ?_⟩
    · obtain ⟨j, hj, e⟩ := mem_getD.1 hm
      have := h3 j (Nat.zero_le _) hj
      rw [strEq_iff, e] at this
      simp at this
    · rw [slices_Index_string_string]
      exact (congrArg (fun r => match r with | some (.inl (_, (l3, _))) => some (((-1), ()), (l3, ())) | some (.inr (.inl ((x4, _), (l5, _)))) => some ((x4, ()), (l5, ())) | some (.inr (.inr (_))) => none | none => none) h4)
theorem contains_at {n : Nat} {l : SL} (x : ByteArray) (hn : l.length + 2 < n) (hN : n < 1000000) : slices_Contains_string_string n (((), x, ()), (l, ())) = some ((decide (x ∈ l), ()), (l, ())) := by
  obtain ⟨n, rfl⟩ : ∃ q, n = q + 1 := ⟨n - 1, by omega⟩
  rw [slices_Contains_string_string]
  rcases index_at (n := n) (l := l) x (by omega) (by omega) with ⟨h1, j, _, h2⟩ | ⟨h1, h2⟩
  · rw [h2, decide_eq_true h1]
    show some ((decide ((j : Int) ≥ 0), ()), (l, ())) = _
    rw [decide_eq_true (by omega)]
  · rw [h2, decide_eq_false h1]
    rfl
theorem index2_at {n : Nat} {l : SL} (x : ByteArray) (hn : l.length + 1 < n) (hN : n < 1000000) : (x ∈ l ∧ ∃ j : Nat, j < l.length ∧ slices_Index_string_string_2 n ((l, x, ()), ()) = some (((j : Int), ()), ())) ∨ (x ∉ l ∧ slices_Index_string_string_2 n ((l, x, ()), ()) = some (((-1), ()), ())) := by
  obtain ⟨n, rfl⟩ : ∃ q, n = q + 1 := ⟨n - 1, by omega⟩
  have h := scan (len := l.length) (F := fun k i => slices_Index_string_string_2_l2 n k ((l, x, (l.length : Int), (i : Int), ()), ())) (p := fun i => strEq x (l.getD i ByteArray.empty)) (found := fun i => some (.inr (.inl (((i : Int), ()), ())))) (miss := some (.inl ((), ())))
    (fun k i hi => by
      show slices_Index_string_string_2_l2 n (k + 1) _ = _
      rw [slices_Index_string_string_2_l2, if_pos (decide_eq_true (show (i : Int) < (l.length : Int) by omega)), if_pos (show (0 : Int) ≤ (i : Int) ∧ (i : Int) < (l.length : Int) by omega), rdT_nat, w64_up i (by omega)]
      rfl)
    (fun k => by
      show slices_Index_string_string_2_l2 n (k + 1) _ = _
      rw [slices_Index_string_string_2_l2, if_neg (by simp)]) l.length n 0 (by omega) (by omega)
  rcases h with ⟨j, _, h2, h3, h4⟩ | ⟨h3, h4⟩
  · left
    simp only [strEq_iff, decide_eq_true_eq] at h3
    refine ⟨mem_getD.2 ⟨j, h2, h3.symm⟩, j, h2, ?_⟩
    rw [slices_Index_string_string_2]
    exact (congrArg (fun r => match r with | some (.inl (_, _)) => some (((-1), ()), ()) | some (.inr (.inl ((x3, _), _))) => some ((x3, ()), ()) | some (.inr (.inr (_))) => none | none => none) h4)
  · right
    refine ⟨fun hm => ?_, ?_⟩
    · obtain ⟨j, hj, e⟩ := mem_getD.1 hm
      have := h3 j (Nat.zero_le _) hj
      rw [strEq_iff, e] at this
      simp at this
    · rw [slices_Index_string_string_2]
      exact (congrArg (fun r => match r with | some (.inl (_, _)) => some (((-1), ()), ()) | some (.inr (.inl ((x3, _), _))) => some ((x3, ()), ()) | some (.inr (.inr (_))) => none | none => none) h4)
theorem contains2_at {n : Nat} {l : SL} (x : ByteArray) (hn : l.length + 2 < n) (hN : n < 1000000) : slices_Contains_string_string_2 n ((l, x, ()), ()) = some ((decide (x ∈ l), ()), ()) := by
  obtain ⟨n, rfl⟩ : ∃ q, n = q + 1 := ⟨n - 1, by omega⟩
  rw [slices_Contains_string_string_2]
  rcases index2_at (n := n) (l := l) x (by omega) (by omega) with ⟨h1, j, _, h2⟩ | ⟨h1, h2⟩
  · rw [h2, decide_eq_true h1]
    show some ((decide ((j : Int) ≥ 0), ()), ()) = _
    rw [decide_eq_true (by omega)]
  · rw [h2, decide_eq_false h1]
    rfl
theorem among_at {n : Nat} {l : SL} (x : ByteArray) (hn : l.length + 1 < n) (hN : n < 1000000) : (x ∈ l ∧ ∃ j : Nat, ref_Among n ((l, x, ()), ()) = some (((j : Int), ()), ())) ∨ (x ∉ l ∧ ref_Among n ((l, x, ()), ()) = some (((-1), ()), ())) := by
  obtain ⟨n, rfl⟩ : ∃ q, n = q + 1 := ⟨n - 1, by omega⟩
  have h := scan (len := l.length) (F := fun k i => ref_Among_l2 n k ((l, x, (i : Int), ()), ())) (p := fun i => strEq (l.getD i ByteArray.empty) x) (found := fun i => some (.inr (.inl (((i : Int), ()), ())))) (miss := some (.inl ((), ())))
    (fun k i hi => by
      show ref_Among_l2 n (k + 1) _ = _
      rw [ref_Among_l2, if_pos (decide_eq_true (show (i : Int) < (l.length : Int) by omega)), if_pos (show (0 : Int) ≤ (i : Int) ∧ (i : Int) < (l.length : Int) by omega), rdT_nat, w64_up i (by omega)]
      rfl)
    (fun k => by
      show ref_Among_l2 n (k + 1) _ = _
      rw [ref_Among_l2, if_neg (by simp)]) l.length n 0 (by omega) (by omega)
  rcases h with ⟨j, _, h2, h3, h4⟩ | ⟨h3, h4⟩
  · left
    simp only [strEq_iff, decide_eq_true_eq] at h3
    refine ⟨mem_getD.2 ⟨j, h2, h3⟩, j, ?_⟩
    rw [ref_Among]
    exact (congrArg (fun r => match r with | some (.inl (_, _)) => some (((-1), ()), ()) | some (.inr (.inl ((x3, _), _))) => some ((x3, ()), ()) | some (.inr (.inr (_))) => none | none => none) h4)
  · right
    refine ⟨fun hm => ?_, ?_⟩
    · obtain ⟨j, hj, e⟩ := mem_getD.1 hm
      have := h3 j (Nat.zero_le _) hj
      rw [strEq_iff, e] at this
      simp at this
    · rw [ref_Among]
      exact (congrArg (fun r => match r with | some (.inl (_, _)) => some (((-1), ()), ()) | some (.inr (.inl ((x3, _), _))) => some ((x3, ()), ()) | some (.inr (.inr (_))) => none | none => none) h4)
theorem among2_at {n : Nat} {l : SL} (x : ByteArray) (hn : l.length + 1 < n) (hN : n < 1000000) : (x ∈ l ∧ ∃ j : Nat, ref_Among_2 n (((), x, ()), (l, ())) = some (((j : Int), ()), (l, ()))) ∨ (x ∉ l ∧ ref_Among_2 n (((), x, ()), (l, ())) = some (((-1), ()), (l, ()))) := by
  obtain ⟨n, rfl⟩ : ∃ q, n = q + 1 := ⟨n - 1, by omega⟩
  have h := scan (len := l.length) (F := fun k i => ref_Among_2_l2 n k (((), x, (i : Int), ()), (l, ()))) (p := fun i => strEq (l.getD i ByteArray.empty) x) (found := fun i => some (.inr (.inl (((i : Int), ()), (l, ()))))) (miss := some (.inl ((), (l, ()))))
    (fun k i hi => by
      show ref_Among_2_l2 n (k + 1) _ = _
      rw [ref_Among_2_l2, if_pos (decide_eq_true (show (i : Int) < (l.length : Int) by omega)), if_pos (show (0 : Int) ≤ (i : Int) ∧ (i : Int) < (l.length : Int) by omega), rdT_nat, w64_up i (by omega)]
      rfl)
    (fun k => by
      show ref_Among_2_l2 n (k + 1) _ = _
      rw [ref_Among_2_l2, if_neg (by simp)]) l.length n 0 (by omega) (by omega)
  rcases h with ⟨j, _, h2, h3, h4⟩ | ⟨h3, h4⟩
  · left
    simp only [strEq_iff, decide_eq_true_eq] at h3
    refine ⟨mem_getD.2 ⟨j, h2, h3⟩, j, ?_⟩
    rw [ref_Among_2]
    exact (congrArg (fun r => match r with | some (.inl (_, (l3, _))) => some (((-1), ()), (l3, ())) | some (.inr (.inl ((x4, _), (l5, _)))) => some ((x4, ()), (l5, ())) | some (.inr (.inr (_))) => none | none => none) h4)
  · right
    refine ⟨fun hm => ?_, ?_⟩
    · obtain ⟨j, hj, e⟩ := mem_getD.1 hm
      have := h3 j (Nat.zero_le _) hj
      rw [strEq_iff, e] at this
      simp at this
    · rw [ref_Among_2]
      exact (congrArg (fun r => match r with | some (.inl (_, (l3, _))) => some (((-1), ()), (l3, ())) | some (.inr (.inl ((x4, _), (l5, _)))) => some ((x4, ()), (l5, ())) | some (.inr (.inr (_))) => none | none => none) h4)
/-- A use that is not there yet. -/
theorem all11_at {n : Nat} {out : SL} (x : ByteArray) (hn : out.length + 3 < n) (hN : n < 1000000) : deps_Graph_All_1_1_2 n ((x, (), ()), (((), ()), out, ())) = some ((!decide (x ∈ out), ()), (((), ()), out, ())) := by
  obtain ⟨n, rfl⟩ : ∃ q, n = q + 1 := ⟨n - 1, by omega⟩
  rw [deps_Graph_All_1_1_2, contains_at (l := out) x (by omega) (by omega)]
theorem anyF_at {n : Nat} {v out : SL} (hn : v.length + out.length + 6 < n) (hN : n < 1000000) : slices_ContainsFunc_string_string_2 n ((v, (), ()), (((), ()), out, ())) = some ((decide (∃ u ∈ v, u ∉ out), ()), (((), ()), out, ())) := by
  obtain ⟨n, rfl⟩ : ∃ q, n = q + 2 := ⟨n - 2, by omega⟩
  have h := scan (len := v.length) (F := fun k i => slices_IndexFunc_string_string_4_l2 n k ((v, (), (v.length : Int), (i : Int), ()), (((), ()), out, ()))) (p := fun i => !decide (v.getD i ByteArray.empty ∈ out)) (found := fun i => some (.inr (.inl (((i : Int), ()), (((), ()), out, ()))))) (miss := some (.inl ((), (((), ()), out, ()))))
    (fun k i hi => by
      show slices_IndexFunc_string_string_4_l2 n (k + 1) _ = _
      rw [slices_IndexFunc_string_string_4_l2, if_pos (decide_eq_true (show (i : Int) < (v.length : Int) by omega)), if_pos (show (0 : Int) ≤ (i : Int) ∧ (i : Int) < (v.length : Int) by omega), rdT_nat, all11_at (n := n) (out := out) (List.getD v i (Ty.dflt .str)) (by omega) (by omega), w64_up i (by omega)]
      rfl)
    (fun k => by
      show slices_IndexFunc_string_string_4_l2 n (k + 1) _ = _
      rw [slices_IndexFunc_string_string_4_l2, if_neg (by simp)]) v.length n 0 (by omega) (by omega)
  rw [slices_ContainsFunc_string_string_2, slices_IndexFunc_string_string_4]
  rcases h with ⟨j, _, h2, h3, h4⟩ | ⟨h3, h4⟩
  · rw [show slices_IndexFunc_string_string_4_l2 n n ((v, (), (v.length : Int), 0, ()), (((), ()), out, ())) = _ from h4]
    rw [decide_eq_true (p := ∃ u ∈ v, u ∉ out) ⟨_, getD_mem v j h2 _, by simpa using h3⟩]
    show some ((decide ((j : Int) ≥ 0), ()), _) = _
    rw [decide_eq_true (by omega)]
  · rw [show slices_IndexFunc_string_string_4_l2 n n ((v, (), (v.length : Int), 0, ()), (((), ()), out, ())) = _ from h4]
    rw [decide_eq_false (p := ∃ u ∈ v, u ∉ out) (by
      rintro ⟨u, hu, hn⟩
      obtain ⟨j, hj, rfl⟩ := mem_getD.1 hu
      have := h3 j (Nat.zero_le _) hj
      exact hn (by simpa using this))]
    rfl
noncomputable def ready (m : GM) (out : SL) (s : ByteArray) : Bool := decide (s ∉ out) && decide (∀ u ∈ mget m s, u ∈ out)
theorem all1_at {n : Nat} {m : GM} {out : SL} (s : ByteArray) (hn : (mget m s).length + out.length + 9 < n) (hN : n < 1000000) : deps_Graph_All_1_2 n ((s, (), (), ()), (((), ()), ((), ()), out, ((), ()), m, ())) = some ((ready m out s, ()), (((), ()), ((), ()), out, ((), ()), m, ())) := by
  obtain ⟨n, rfl⟩ : ∃ q, n = q + 1 := ⟨n - 1, by omega⟩
  rw [deps_Graph_All_1_2, contains_at (l := out) s (by omega) (by omega)]
  unfold ready
  by_cases h : s ∈ out
  · simp [h]
  · have e := anyF_at (n := n) (v := mget m s) (out := out) (by omega) (by omega)
    have e' : slices_ContainsFunc_string_string_2 n (((mfind (keyEq (.str : Ty)) s m).getD [], (), ()), (((), ()), out, ())) = _ := e
    have e2 : (!decide (∃ u ∈ mget m s, u ∉ out)) = decide (∀ u ∈ mget m s, u ∈ out) := by
      rw [Bool.eq_iff_iff]
      simp
    simp only [h, decide_false, Bool.not_false, if_true, e', not_false_eq_true, decide_true, Bool.true_and]
    rw [e2]
theorem indexF_at {n : Nat} {m : GM} {names out : SL} {M : Nat} (hM : ∀ s ∈ names, (mget m s).length ≤ M) (hn : names.length + M + out.length + 12 < n) (hN : n < 1000000) :
    (∃ j : Nat, j < names.length ∧ ready m out (names.getD j ByteArray.empty) = true ∧ slices_IndexFunc_string_string_3 n ((names, (), ()), (((), ()), ((), ()), out, ((), ()), m, ())) = some (((j : Int), ()), (((), ()), ((), ()), out, ((), ()), m, ()))) ∨
    ((∀ s ∈ names, ready m out s = false) ∧ slices_IndexFunc_string_string_3 n ((names, (), ()), (((), ()), ((), ()), out, ((), ()), m, ())) = some (((-1), ()), (((), ()), ((), ()), out, ((), ()), m, ()))) := by
  obtain ⟨n, rfl⟩ : ∃ q, n = q + 1 := ⟨n - 1, by omega⟩
  have h := scan (len := names.length) (F := fun k i => slices_IndexFunc_string_string_3_l2 n k ((names, (), (names.length : Int), (i : Int), ()), (((), ()), ((), ()), out, ((), ()), m, ()))) (p := fun i => ready m out (names.getD i ByteArray.empty)) (found := fun i => some (.inr (.inl (((i : Int), ()), (((), ()), ((), ()), out, ((), ()), m, ()))))) (miss := some (.inl ((), (((), ()), ((), ()), out, ((), ()), m, ()))))
    (fun k i hi => by
      show slices_IndexFunc_string_string_3_l2 n (k + 1) _ = _
      have := hM _ (getD_mem names i hi ByteArray.empty)
      rw [slices_IndexFunc_string_string_3_l2, if_pos (decide_eq_true (show (i : Int) < (names.length : Int) by omega)), if_pos (show (0 : Int) ≤ (i : Int) ∧ (i : Int) < (names.length : Int) by omega), rdT_nat, all1_at (n := n) (m := m) (out := out) (List.getD names i (Ty.dflt .str)) (by have : (mget m (List.getD names i (Ty.dflt .str))).length ≤ M := this; omega) (by omega), w64_up i (by omega)]
      rfl)
    (fun k => by
      show slices_IndexFunc_string_string_3_l2 n (k + 1) _ = _
      rw [slices_IndexFunc_string_string_3_l2, if_neg (by simp)]) names.length n 0 (by omega) (by omega)
  rw [slices_IndexFunc_string_string_3]
  rcases h with ⟨j, _, h2, h3, h4⟩ | ⟨h3, h4⟩
  · exact .inl ⟨j, h2, h3, by rw [show slices_IndexFunc_string_string_3_l2 n n ((names, (), (names.length : Int), 0, ()), (((), ()), ((), ()), out, ((), ()), m, ())) = _ from h4]⟩
  · refine .inr ⟨fun s hs => ?_, by rw [show slices_IndexFunc_string_string_3_l2 n n ((names, (), (names.length : Int), 0, ()), (((), ()), ((), ()), out, ((), ()), m, ())) = _ from h4]⟩
    obtain ⟨j, hj, rfl⟩ := mem_getD.1 hs
    exact h3 j (Nat.zero_le _) hj
/-- What is put out so far. -/
structure Inv (m : GM) (names out : SL) : Prop where
  nodup : out.Nodup
  sub : ∀ s ∈ out, s ∈ names
  behind : ∀ i, i < out.length → ∀ u ∈ mget m (out.getD i ByteArray.empty), u ∈ out.take i
theorem Inv.add {m : GM} {names out : SL} (h : Inv m names out) {s : ByteArray} (hs : s ∈ names) (hr : ready m out s = true) : Inv m names (out ++ [s]) := by
  unfold ready at hr
  simp only [Bool.and_eq_true, decide_eq_true_eq] at hr
  refine ⟨?_, ?_, ?_⟩
  · rw [List.nodup_append]
    exact ⟨h.nodup, by simp, fun a ha b hb e => by simp at hb; subst hb; subst e; exact hr.1 ha⟩
  · intro x hx
    rcases List.mem_append.1 hx with hx | hx
    · exact h.sub x hx
    · simp at hx; subst hx; exact hs
  · intro i hi u hu
    rw [List.length_append, List.length_singleton] at hi
    by_cases e : i < out.length
    · rw [List.getD_eq_getElem?_getD, List.getElem?_append_left e, ← List.getD_eq_getElem?_getD] at hu
      rw [List.take_append_of_le_length (by omega)]
      exact h.behind i e u hu
    · obtain rfl : i = out.length := by omega
      have e2 : (out ++ [s]).getD out.length ByteArray.empty = s := by simp [List.getD_eq_getElem?_getD]
      rw [e2] at hu
      rw [List.take_left' rfl]
      exact hr.2 u hu
theorem all_loop {n : Nat} {m : GM} {names : SL} {M : Nat} (hM : ∀ s ∈ names, (mget m s).length ≤ M) (hn : 2 * names.length + M + 12 < n) (hN : n < 1000000) (hlen : names.length ≤ 1000) (P : ∀ out, Inv m names out → out.length < names.length → ∃ s ∈ names, ready m out s = true) :
    ∀ d k (out : SL), Inv m names out → out.length + d = names.length → d < k → ∃ out', Inv m names out' ∧ out'.length = names.length ∧ deps_Graph_All_l5 n k (((), names, (), ()), (((), ()), m, ((), ()), ((), ()), out, ())) = some (.inl (((), ()), (((), ()), m, ((), ()), out', ()))) := by
  intro d
  induction d with
  | zero =>
    intro k out hI hd hk
    obtain ⟨k, rfl⟩ : ∃ q, k = q + 1 := ⟨k - 1, by omega⟩
    refine ⟨out, hI, by omega, ?_⟩
    rw [deps_Graph_All_l5, if_neg (by simp; omega)]
  | succ d ih =>
    intro k out hI hd hk
    obtain ⟨k, rfl⟩ : ∃ q, k = q + 1 := ⟨k - 1, by omega⟩
    rcases indexF_at (n := n) (names := names) (out := out) hM (by omega) (by omega) with ⟨j, hj, hr, he⟩ | ⟨hno, _⟩
    · obtain ⟨out', h1, h2, h3⟩ := ih k (out ++ [names.getD j ByteArray.empty]) (hI.add (getD_mem names j hj _) hr) (by simp; omega) (by omega)
      refine ⟨out', h1, h2, ?_⟩
      rw [deps_Graph_All_l5, if_pos (decide_eq_true (show (out.length : Int) < (names.length : Int) by omega)), he]
      show (if decide ((j : Int) < 0) then _ else _) = _
      rw [if_neg (show ¬ decide ((j : Int) < 0) = true by simp), if_pos (show (0 : Int) ≤ (j : Int) ∧ (j : Int) < (names.length : Int) by omega), if_pos (by simp; omega)]
      exact h3
    · obtain ⟨s, hs, hr⟩ := P out hI (by omega)
      rw [hno s hs] at hr
      cases hr
end Go.Proofs.YtkmeghmhgbbmhaaDoor.Pure
