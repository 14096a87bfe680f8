/- DepsTurned, in plain words: what the small functions answer. By this session. -/
import Derived.Test.YtnajjhjbkanigaaDoorCDepsSaysR
import Derived.Test.YtnajjhjbkanigaaDoorCmPl
import Derived.KernelRfl
namespace Go.Proofs.YtnajjhjbkanigaaDoor.Pure
open Go Go.Proofs.YtnajjhjbkanigaaDoor.Cm
open Classical
set_option linter.unusedVariables false
set_option maxRecDepth 100000
abbrev SL := List ByteArray
abbrev GM := List (ByteArray × List ByteArray)
def mget (m : GM) (s : ByteArray) : SL := (mfind (keyEq (.str : Ty)) s m).getD []
theorem scan {R : Type} {len : Nat} {F : Nat → Nat → R} {p : Nat → Bool} {found : Nat → R} {miss : R} (step : ∀ k i, i < len → F (k + 1) i = if p i then found i else F k (i + 1)) (last : ∀ k, F (k + 1) len = miss) :
    ∀ d k i, i + d = len → d < k → (∃ j, i ≤ j ∧ j < len ∧ p j = true ∧ F k i = found j) ∨ ((∀ j, i ≤ j → j < len → p j = false) ∧ F k i = miss) := by
  intro d
  induction d with
  | zero =>
    intro k i hi hk
    obtain ⟨k, rfl⟩ : ∃ q, k = q + 1 := ⟨k - 1, by omega⟩
    obtain rfl : i = len := by omega
    exact .inr ⟨fun j h1 h2 => by omega, last k⟩
  | succ d ih =>
    intro k i hi hk
    obtain ⟨k, rfl⟩ : ∃ q, k = q + 1 := ⟨k - 1, by omega⟩
    rw [step k i (by omega)]
    cases hp : p i with
    | true => exact .inl ⟨i, Nat.le_refl _, by omega, hp, by simp⟩
    | false =>
      simp only [Bool.false_eq_true, if_false]
      rcases ih k (i + 1) (by omega) (by omega) with ⟨j, h1, h2, h3, h4⟩ | ⟨h1, h2⟩
      · exact .inl ⟨j, by omega, h2, h3, h4⟩
      · refine .inr ⟨fun j h3 h4 => ?_, h2⟩
        by_cases e : j = i
        · rw [e]; exact hp
        · exact h1 j (by omega) h4
theorem mem_getD {l : SL} {x : ByteArray} : x ∈ l ↔ ∃ j, j < l.length ∧ l.getD j ByteArray.empty = x := by
  constructor
  · intro h
    obtain ⟨j, hj, e⟩ := List.mem_iff_getElem.1 h
    exact ⟨j, hj, by rw [List.getD_eq_getElem?_getD, List.getElem?_eq_getElem hj]; exact e⟩
  · rintro ⟨j, hj, rfl⟩
    exact getD_mem l j hj _
/-- slices.Index: is it there? -/
theorem index_at {n : Nat} {l : SL} (x : ByteArray) (hn : l.length + 1 < n) (hN : n < 4000000000000000000) : (x ∈ l ∧ ∃ j : Nat, j < l.length ∧ slices_Index_string_string n (((), x, ()), (l, ())) = some (((j : Int), ()), (l, ()))) ∨ (x ∉ l ∧ slices_Index_string_string n (((), x, ()), (l, ())) = some (((-1), ()), (l, ()))) := by
  obtain ⟨n, rfl⟩ : ∃ q, n = q + 1 := ⟨n - 1, by omega⟩
  have h := scan (len := l.length) (F := fun k i => slices_Index_string_string_l2 n k (((), x, (l.length : Int), (i : Int), ()), (l, ()))) (p := fun i => strEq x (l.getD i ByteArray.empty)) (found := fun i => some (.inr (.inl (((i : Int), ()), (l, ()))))) (miss := some (.inl ((), (l, ()))))
    (fun k i hi => by
      show slices_Index_string_string_l2 n (k + 1) _ = _
      rw [slices_Index_string_string_l2, if_pos (decide_eq_true (show (i : Int) < (l.length : Int) by omega)), if_pos (show (0 : Int) ≤ (i : Int) ∧ (i : Int) < (l.length : Int) by omega), rdT_nat, w64_up i (by omega)]
      rfl)
    (fun k => by
      show slices_Index_string_string_l2 n (k + 1) _ = _
      rw [slices_Index_string_string_l2, if_neg (by simp)]) l.length n 0 (by omega) (by omega)
  rcases h with ⟨j, _, h2, h3, h4⟩ | ⟨h3, h4⟩
  · left
    simp only [strEq_iff, decide_eq_true_eq] at h3
    refine ⟨mem_getD.2 ⟨j, h2, h3.symm⟩, j, h2, ?_⟩
    rw [slices_Index_string_string]
    exact (congrArg (fun r => match r with | some (.inl (_, (l3, _))) => some (((-1), ()), (l3, ())) | some (.inr (.inl ((x4, _), (l5, _)))) => some ((x4, ()), (l5, ())) | some (.inr (.inr (_))) => none | none => none) h4)
  · right
    refine ⟨fun hm => ?_, ?_⟩
    · obtain ⟨j, hj, e⟩ := mem_getD.1 hm
      have := h3 j (Nat.zero_le _) hj
      rw [strEq_iff, e] at this
      simp at this
    · rw [slices_Index_string_string]
      exact (congrArg (fun r => match r with | some (.inl (_, (l3, _))) => some (((-1), ()), (l3, ())) | some (.inr (.inl ((x4, _), (l5, _)))) => some ((x4, ()), (l5, ())) | some (.inr (.inr (_))) => none | none => none) h4)
theorem contains_at {n : Nat} {l : SL} (x : ByteArray) (hn : l.length + 2 < n) (hN : n < 4000000000000000000) : slices_Contains_string_string n (((), x, ()), (l, ())) = some ((decide (x ∈ l), ()), (l, ())) := by
  obtain ⟨n, rfl⟩ : ∃ q, n = q + 1 := ⟨n - 1, by omega⟩
  rw [slices_Contains_string_string]
  rcases index_at (n := n) (l := l) x (by omega) (by omega) with ⟨h1, j, _, h2⟩ | ⟨h1, h2⟩
  · rw [h2, decide_eq_true h1]
    show some ((decide ((j : Int) ≥ 0), ()), (l, ())) = _
    rw [decide_eq_true (by omega)]
  · rw [h2, decide_eq_false h1]
    rfl
theorem index2_at {n : Nat} {l : SL} (x : ByteArray) (hn : l.length + 1 < n) (hN : n < 4000000000000000000) : (x ∈ l ∧ ∃ j : Nat, j < l.length ∧ slices_Index_string_string_2 n ((l, x, ()), ()) = some (((j : Int), ()), ())) ∨ (x ∉ l ∧ slices_Index_string_string_2 n ((l, x, ()), ()) = some (((-1), ()), ())) := by
  obtain ⟨n, rfl⟩ : ∃ q, n = q + 1 := ⟨n - 1, by omega⟩
  have h := scan (len := l.length) (F := fun k i => slices_Index_string_string_2_l2 n k ((l, x, (l.length : Int), (i : Int), ()), ())) (p := fun i => strEq x (l.getD i ByteArray.empty)) (found := fun i => some (.inr (.inl (((i : Int), ()), ())))) (miss := some (.inl ((), ())))
    (fun k i hi => by
      show slices_Index_string_string_2_l2 n (k + 1) _ = _
      rw [slices_Index_string_string_2_l2, if_pos (decide_eq_true (show (i : Int) < (l.length : Int) by omega)), if_pos (show (0 : Int) ≤ (i : Int) ∧ (i : Int) < (l.length : Int) by omega), rdT_nat, w64_up i (by omega)]
      rfl)
    (fun k => by
      show slices_Index_string_string_2_l2 n (k + 1) _ = _
      rw [slices_Index_string_string_2_l2, if_neg (by simp)]) l.length n 0 (by omega) (by omega)
  rcases h with ⟨j, _, h2, h3, h4⟩ | ⟨h3, h4⟩
  · left
    simp only [strEq_iff, decide_eq_true_eq] at h3
    refine ⟨mem_getD.2 ⟨j, h2, h3.symm⟩, j, h2, ?_⟩
    rw [slices_Index_string_string_2]
    exact (congrArg (fun r => match r with | some (.inl (_, _)) => some (((-1), ()), ()) | some (.inr (.inl ((x3, _), _))) => some ((x3, ()), ()) | some (.inr (.inr (_))) => none | none => none) h4)
  · right
    refine ⟨fun hm => ?_, ?_⟩
    · obtain ⟨j, hj, e⟩ := mem_getD.1 hm
      have := h3 j (Nat.zero_le _) hj
      rw [strEq_iff, e] at this
      simp at this
    · rw [slices_Index_string_string_2]
      exact (congrArg (fun r => match r with | some (.inl (_, _)) => some (((-1), ()), ()) | some (.inr (.inl ((x3, _), _))) => some ((x3, ()), ()) | some (.inr (.inr (_))) => none | none => none) h4)
theorem contains2_at {n : Nat} {l : SL} (x : ByteArray) (hn : l.length + 2 < n) (hN : n < 4000000000000000000) : slices_Contains_string_string_2 n ((l, x, ()), ()) = some ((decide (x ∈ l), ()), ()) := by
  obtain ⟨n, rfl⟩ : ∃ q, n = q + 1 := ⟨n - 1, by omega⟩
  rw [slices_Contains_string_string_2]
  rcases index2_at (n := n) (l := l) x (by omega) (by omega) with ⟨h1, j, _, h2⟩ | ⟨h1, h2⟩
  · rw [h2, decide_eq_true h1]
    show some ((decide ((j : Int) ≥ 0), ()), ()) = _
    rw [decide_eq_true (by omega)]
  · rw [h2, decide_eq_false h1]
    rfl
theorem all11_at {n : Nat} {out : SL} (x : ByteArray) (hn : out.length + 3 < n) (hN : n < 4000000000000000000) : deps_Graph_All_1_1_2 n ((x, (), ()), (((), ()), out, ())) = some ((!decide (x ∈ out), ()), (((), ()), out, ())) := by
  obtain ⟨n, rfl⟩ : ∃ q, n = q + 1 := ⟨n - 1, by omega⟩
  rw [deps_Graph_All_1_1_2, contains_at (l := out) x (by omega) (by omega)]
theorem anyF_at {n : Nat} {v out : SL} (hn : v.length + out.length + 6 < n) (hN : n < 4000000000000000000) : slices_ContainsFunc_string_string_2 n ((v, (), ()), (((), ()), out, ())) = some ((decide (∃ u ∈ v, u ∉ out), ()), (((), ()), out, ())) := by
  obtain ⟨n, rfl⟩ : ∃ q, n = q + 2 := ⟨n - 2, by omega⟩
  have h := scan (len := v.length) (F := fun k i => slices_IndexFunc_string_string_4_l2 n k ((v, (), (v.length : Int), (i : Int), ()), (((), ()), out, ()))) (p := fun i => !decide (v.getD i ByteArray.empty ∈ out)) (found := fun i => some (.inr (.inl (((i : Int), ()), (((), ()), out, ()))))) (miss := some (.inl ((), (((), ()), out, ()))))
    (fun k i hi => by
      show slices_IndexFunc_string_string_4_l2 n (k + 1) _ = _
      rw [slices_IndexFunc_string_string_4_l2, if_pos (decide_eq_true (show (i : Int) < (v.length : Int) by omega)), if_pos (show (0 : Int) ≤ (i : Int) ∧ (i : Int) < (v.length : Int) by omega), rdT_nat, all11_at (n := n) (out := out) (List.getD v i (Ty.dflt .str)) (by omega) (by omega), w64_up i (by omega)]
      rfl)
    (fun k => by
      show slices_IndexFunc_string_string_4_l2 n (k + 1) _ = _
      rw [slices_IndexFunc_string_string_4_l2, if_neg (by simp)]) v.length n 0 (by omega) (by omega)
  rw [slices_ContainsFunc_string_string_2, slices_IndexFunc_string_string_4]
  rcases h with ⟨j, _, h2, h3, h4⟩ | ⟨h3, h4⟩
  · rw [show slices_IndexFunc_string_string_4_l2 n n ((v, (), (v.length : Int), 0, ()), (((), ()), out, ())) = _ from h4]
    rw [decide_eq_true (p := ∃ u ∈ v, u ∉ out) ⟨_, getD_mem v j h2 _, by simpa using h3⟩]
    show some ((decide ((j : Int) ≥ 0), ()), _) = _
    rw [decide_eq_true (by omega)]
  · rw [show slices_IndexFunc_string_string_4_l2 n n ((v, (), (v.length : Int), 0, ()), (((), ()), out, ())) = _ from h4]
    rw [decide_eq_false (p := ∃ u ∈ v, u ∉ out) (by
      rintro ⟨u, hu, hn⟩
      obtain ⟨j, hj, rfl⟩ := mem_getD.1 hu
      have := h3 j (Nat.zero_le _) hj
      exact hn (by simpa using this))]
    rfl
noncomputable def ready (m : GM) (out : SL) (s : ByteArray) : Bool := decide (s ∉ out) && decide (∀ u ∈ mget m s, u ∈ out)
theorem all1_at {n : Nat} {m : GM} {out : SL} (s : ByteArray) (hn : (mget m s).length + out.length + 9 < n) (hN : n < 4000000000000000000) : deps_Graph_All_1_2 n ((s, (), (), ()), (((), ()), ((), ()), out, ((), ()), m, ())) = some ((ready m out s, ()), (((), ()), ((), ()), out, ((), ()), m, ())) := by
  obtain ⟨n, rfl⟩ : ∃ q, n = q + 1 := ⟨n - 1, by omega⟩
  rw [deps_Graph_All_1_2, contains_at (l := out) s (by omega) (by omega)]
  unfold ready
  by_cases h : s ∈ out
  · simp [h]
  · have e := anyF_at (n := n) (v := mget m s) (out := out) (by omega) (by omega)
    have e' : slices_ContainsFunc_string_string_2 n (((mfind (keyEq (.str : Ty)) s m).getD [], (), ()), (((), ()), out, ())) = _ := e
    have e2 : (!decide (∃ u ∈ mget m s, u ∉ out)) = decide (∀ u ∈ mget m s, u ∈ out) := by
      rw [Bool.eq_iff_iff]
      simp
    simp only [h, decide_false, Bool.not_false, if_true, e', not_false_eq_true, decide_true, Bool.true_and]
    rw [e2]
/-! ### maps -/
theorem kq (a b : ByteArray) : (keyEq (.str : Ty) a b = true) ↔ a = b := keyS_true a b
abbrev keys {V : Type} (m : List (ByteArray × V)) : SL := m.map Prod.fst
theorem mfind_in {V : Type} {s : ByteArray} : ∀ {m : List (ByteArray × V)}, (mfind (keyEq (.str : Ty)) s m).isSome = true ↔ s ∈ keys m
  | [] => by simp [mfind, keys]
  | p :: m => by
    unfold mfind
    by_cases h : s = p.1
    · rw [if_pos ((kq _ _).2 h)]
      simp [keys, h]
    · rw [if_neg (fun e => h ((kq _ _).1 e)), mfind_in]
      simp [keys, h]
theorem mfind_out {V : Type} {s : ByteArray} {m : List (ByteArray × V)} (h : s ∉ keys m) : mfind (keyEq (.str : Ty)) s m = none := by
  cases e : mfind (keyEq (.str : Ty)) s m with
  | none => rfl
  | some v => exact absurd (mfind_in.1 (by rw [e]; rfl)) h
theorem mfind_mset {V : Type} (k : ByteArray) (v : V) (s : ByteArray) : ∀ m : List (ByteArray × V), mfind (keyEq (.str : Ty)) s (mset (keyEq (.str : Ty)) k v m) = if s = k then some v else mfind (keyEq (.str : Ty)) s m
  | [] => by
    unfold mset mfind
    by_cases h : s = k
    · rw [if_pos ((kq _ _).2 h), if_pos h]
    · rw [if_neg (fun e => h ((kq _ _).1 e)), if_neg h]; rfl
  | p :: m => by
    unfold mset
    by_cases hk : k = p.1
    · rw [if_pos ((kq _ _).2 hk)]
      unfold mfind
      by_cases h : s = k
      · rw [if_pos ((kq _ _).2 h), if_pos h]
      · rw [if_neg (fun e => h ((kq _ _).1 e)), if_neg h, if_neg (fun e => h (((kq _ _).1 e).trans hk.symm))]
    · rw [if_neg (fun e => hk ((kq _ _).1 e))]
      unfold mfind
      by_cases h : s = p.1
      · rw [if_pos ((kq _ _).2 h), if_pos ((kq _ _).2 h), if_neg (fun e => hk (e.symm.trans h))]
      · rw [if_neg (fun e => h ((kq _ _).1 e)), if_neg (fun e => h ((kq _ _).1 e)), mfind_mset k v s m]
theorem mset_new {V : Type} {k : ByteArray} {v : V} : ∀ {m : List (ByteArray × V)}, k ∉ keys m → mset (keyEq (.str : Ty)) k v m = m ++ [(k, v)]
  | [], _ => rfl
  | p :: m, h => by
    simp only [keys, List.map_cons, List.mem_cons, not_or] at h
    unfold mset
    rw [if_neg (fun e => h.1 ((kq _ _).1 e)), mset_new h.2]
    rfl
theorem cnt_lt {p q : ByteArray → Bool} (h : ∀ x, q x = true → p x = true) {x : ByteArray} (hp : p x = true) (hq : q x = false) : ∀ {l : SL}, x ∈ l → (l.filter q).length < (l.filter p).length := by
  have le : ∀ l : SL, (l.filter q).length ≤ (l.filter p).length := by
    intro l
    induction l with
    | nil => exact Nat.le_refl _
    | cons a l ih =>
      rw [List.filter_cons, List.filter_cons]
      cases hqa : q a with
      | true => rw [h a hqa]; simpa using ih
      | false =>
        cases p a with
        | true => simp only [Bool.false_eq_true, if_false, if_true, List.length_cons]; omega
        | false => simpa using ih
  intro l hx
  induction l with
  | nil => cases hx
  | cons a l ih =>
    rw [List.filter_cons, List.filter_cons]
    rcases List.mem_cons.1 hx with rfl | hx
    · rw [hq, hp]
      have := le l
      simp only [Bool.false_eq_true, if_false, if_true, List.length_cons]
      omega
    · have := ih hx
      cases hqa : q a with
      | true => rw [h a hqa]; simpa using this
      | false =>
        cases p a with
        | true => simp only [Bool.false_eq_true, if_false, if_true, List.length_cons]; omega
        | false => simpa using this
theorem nodup_len : ∀ {l m : SL}, l.Nodup → (∀ x ∈ l, x ∈ m) → l.length ≤ m.length
  | [], m, _, _ => Nat.zero_le _
  | x :: l, m, h, hs => by
    rw [List.nodup_cons] at h
    obtain ⟨a, b, rfl⟩ := List.append_of_mem (hs x (.head _))
    have : l.length ≤ (a ++ b).length := nodup_len h.2 (fun y hy => by
      have := hs y (.tail _ hy)
      rw [List.mem_append, List.mem_cons] at this
      rw [List.mem_append]
      rcases this with h1 | rfl | h1
      · exact .inl h1
      · exact absurd hy h.1
      · exact .inr h1)
    simp only [List.length_append, List.length_cons] at this ⊢
    omega
theorem insS_perm (x : ByteArray) : ∀ l, (insS x l).Perm (x :: l)
  | [] => .refl _
  | y :: r => by
    unfold insS
    split
    · exact ((insS_perm x r).cons y).trans (.swap x y r)
    · exact .refl _
theorem sortS_perm : ∀ l : SL, (sortS l).Perm l
  | [] => .refl _
  | x :: l => by rw [sortS_cons]; exact (insS_perm x _).trans ((sortS_perm l).cons x)
/-! ### order -/
theorem strLt_eq (x y : ByteArray) : strLt x y = decide (x.data.toList < y.data.toList) := less_eq _ _
theorem str_ext {x y : ByteArray} (h : x.data.toList = y.data.toList) : x = y := by
  cases x; cases y
  congr 1
  exact Array.toList_inj.1 h
theorem strLt_irr (x : ByteArray) : strLt x x = false := by
  rw [strLt_eq]
  exact decide_eq_false (List.lt_irrefl _)
theorem strLt_asym {x y : ByteArray} (h : strLt x y = true) : strLt y x = false := by
  rw [strLt_eq] at h ⊢
  exact decide_eq_false (fun h2 => List.lt_irrefl _ (List.lt_trans (of_decide_eq_true h) h2))
theorem strLt_trans {x y z : ByteArray} (h : strLt x y = true) (h2 : strLt y z = true) : strLt x z = true := by
  rw [strLt_eq] at h h2 ⊢
  exact decide_eq_true (List.lt_trans (of_decide_eq_true h) (of_decide_eq_true h2))
/-- Names that rise. -/
def Rising (l : SL) : Prop := l.Pairwise (fun a b => strLt a b = true)
theorem sortS_rising {l : SL} (h : l.Nodup) : Rising (sortS l) := by
  have h1 := (sortS_spec l).2
  have h2 : (sortS l).Nodup := (sortS_perm l).nodup_iff.2 h
  rw [List.pairwise_map] at h1
  refine List.Pairwise.imp₂ (R := fun a b : ByteArray => a.data.toList ≤ b.data.toList) (S := fun a b => a ≠ b) (fun a b hab hne => ?_) h1 h2
  rw [strLt_eq]
  refine decide_eq_true ?_
  rcases List.le_iff_lt_or_eq.1 hab with h | h
  · exact h
  · exact absurd (str_ext h) hne
theorem rising_nodup {l : SL} (h : Rising l) : l.Nodup := List.Pairwise.imp (fun {a b} hab e => by rw [e, strLt_irr] at hab; cases hab) h
/-- The names that rise and are the same are the same row. -/
theorem rising_sort {l : SL} (h : Rising l) : sortS l = l := by
  have h1 := (sortS_spec l).2
  have hp := sortS_perm l
  have h2 : (sortS l).Pairwise (fun a b => a.data.toList ≤ b.data.toList) := List.pairwise_map.1 h1
  have h3 : l.Pairwise (fun a b => a.data.toList ≤ b.data.toList) := List.Pairwise.imp (fun {a b} hab => List.le_of_lt (by rw [strLt_eq] at hab; exact of_decide_eq_true hab)) h
  exact List.Perm.eq_of_pairwise (le := fun a b : ByteArray => a.data.toList ≤ b.data.toList) (fun a b _ _ ha hb => str_ext (List.le_antisymm ha hb)) h2 h3 hp
/-- Rising rows of the same names are the same row. -/
theorem rising_eq {a b : SL} (ha : Rising a) (hb : Rising b) (h : ∀ x, x ∈ a ↔ x ∈ b) : a = b := by
  have le : ∀ {l : SL}, Rising l → l.Pairwise (fun a b => a.data.toList ≤ b.data.toList) := fun h => List.Pairwise.imp (fun {a b} hab => List.le_of_lt (by rw [strLt_eq] at hab; exact of_decide_eq_true hab)) h
  have hp : a.Perm b := (List.perm_ext_iff_of_nodup (rising_nodup ha) (rising_nodup hb)).2 h
  exact List.Perm.eq_of_pairwise (le := fun a b : ByteArray => a.data.toList ≤ b.data.toList) (fun a b _ _ ha hb => str_ext (List.le_antisymm ha hb)) (le ha) (le hb) hp
theorem SameTexts_at {n : Nat} (l m : SL) (hn : 10 + l.length ≤ n) (hl : l.length < 1000000000) : ref_SameTexts n ((l, m, ()), ()) = some ((decide (l = m), ()), ()) := by
  obtain ⟨n, rfl⟩ : ∃ k, n = k + 1 := ⟨n - 1, by omega⟩
  simp only [ref_SameTexts]
  by_cases hlen : l.length = m.length
  · rw [if_neg (by simp [hlen])]
    have a := for_inv (F := ref_SameTexts_l4 n) (len := l.length) (st := fun i => ((l, m, (i : Int), ()), ())) (fun i => l.take i = m.take i) (fun r => (r = some (.inl ((), ())) ∧ l = m) ∨ (r = some (.inr (.inl ((false, ()), ()))) ∧ l ≠ m)) (by simp) (fun i k hi hI => by
      simp only [ref_SameTexts_l4]
      rw [if_pos (decide_eq_true (show (i : Int) < (l.length : Int) by omega)), if_pos (show 0 ≤ (i : Int) ∧ (i : Int) < (l.length : Int) from ⟨by omega, by omega⟩), if_pos (show 0 ≤ (i : Int) ∧ (i : Int) < (m.length : Int) from ⟨by omega, by omega⟩)]
      rw [rdT_nat, rdT_nat, strEq_iff]
      by_cases he : l.getD i (Ty.dflt .str) = m.getD i (Ty.dflt .str)
      · refine .inl ⟨take_eq_succ hI hi (by omega) _ he, ?_⟩
        rw [decide_eq_true he, if_neg (by decide), w64_up i (by omega)]
      · refine .inr (.inr ⟨?_, ne_of_getD _ he⟩)
        rw [decide_eq_false he, if_pos (by decide)]) (fun k hI => by
      rw [List.take_length, hlen, List.take_length] at hI
      refine .inl ⟨?_, hI⟩
      simp only [ref_SameTexts_l4]
      rw [if_neg (by simp)]) n (by omega)
    rw [show (0 : Int) = ((0 : Nat) : Int) from rfl]
    rcases a with ⟨a, h⟩ | ⟨a, h⟩
    · rw [a, decide_eq_true h]
    · rw [a, decide_eq_false h]
  · rw [if_pos (by simp; omega), decide_eq_false (fun h => hlen (by rw [h]))]
theorem cut1 (s : ByteArray) (rest : SL) : cutL (s :: rest) 1 ((s :: rest).length : Int) = rest := by simp [cutL]
theorem wf_of {V : Type} {m : List (ByteArray × V)} (h : ∀ s ∈ keys m, s.size ≤ 1099511627776) : wfKeysS m = true := by
  unfold wfKeysS
  rw [List.all_eq_true]
  exact fun p hp => decide_eq_true (h p.1 (List.mem_map.2 ⟨p, hp, rfl⟩))
end Go.Proofs.YtnajjhjbkanigaaDoor.Pure
