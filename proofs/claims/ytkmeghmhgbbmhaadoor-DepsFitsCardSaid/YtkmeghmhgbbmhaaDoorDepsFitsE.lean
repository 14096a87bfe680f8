/- DepsFits, in plain words: the graph that is asked. By this session. -/
import Derived.Test.YtkmeghmhgbbmhaaDoorDepsFitsD
namespace Go.Proofs.YtkmeghmhgbbmhaaDoor.Pure
open Go Go.Proofs.YtkmeghmhgbbmhaaDoor.Cm
open Classical
set_option linter.unusedVariables false
set_option maxRecDepth 100000
def nm (i : Nat) : ByteArray := (⟨#[110]⟩ : ByteArray) ++ itoaS (i : Int)
theorem num_at {n : Nat} (hn : 1 ≤ n) (i : Nat) (hi : i < 100) : world_Num n (((i : Int), ()), ()) = some ((itoaS (i : Int), ()), ()) := by
  obtain ⟨n, rfl⟩ : ∃ q, n = q + 1 := ⟨n - 1, by omega⟩
  have e : strconv_Itoa n (((i : Int), ()), ()) = some ((itoaS (i : Int), ()), ()) := by
    show itoaSem _ = _
    unfold itoaSem
    rw [if_pos (show -9223372036854775808 ≤ (i : Int) ∧ (i : Int) ≤ 9223372036854775807 by omega)]
  rw [world_Num, e]
theorem small : (List.range 17).all (fun i => decide ((itoaS (i : Int)).size ≤ 2) && decide ((nm i).size ≤ 3) && !strEq (nm i) (⟨#[]⟩ : ByteArray)) = true := by kernel_rfl
theorem small_at {i : Nat} (hi : i < 17) : (itoaS (i : Int)).size ≤ 2 ∧ (nm i).size ≤ 3 ∧ strEq (nm i) (⟨#[]⟩ : ByteArray) = false := by
  have := all_range small hi
  simp only [Bool.and_eq_true, decide_eq_true_eq, Bool.not_eq_true'] at this
  exact ⟨this.1.1, this.1.2, this.2⟩
def rank (s : ByteArray) : Nat := (List.range 17).findIdx fun i => strEq (nm i) s
theorem ranks : (List.range 17).all (fun i => rank (nm i) == i) = true := by kernel_rfl
theorem rank_nm {i : Nat} (hi : i < 17) : rank (nm i) = i := by simpa using all_range ranks hi
theorem nm_inj {i j : Nat} (hi : i < 17) (hj : j < 17) (h : nm i = nm j) : i = j := by rw [← rank_nm hi, ← rank_nm hj, h]
theorem nm0 : nm 0 = (⟨#[110, 48]⟩ : ByteArray) := by
  have h : strEq (nm 0) (⟨#[110, 48]⟩ : ByteArray) = true := by kernel_rfl
  rw [strEq_iff] at h
  simpa using h
abbrev EQ := ty11.T
def eqn (s : ByteArray) : EQ := (0, ([], ((0, (0, (0, ((⟨#[]⟩ : ByteArray), [])))), (s, ([], (⟨#[]⟩ : ByteArray))))))
abbrev ND := ty0.T
def node (s : ByteArray) (es : List EQ) : ND := (s, ([], ([], ([], es))))
theorem edges {n : Nat} {bits : List Int} {l5 : List ND} {x6 : ByteArray} {N i : Nat} (hN : N ≤ 16) (hn : 1 ≤ n) (hi : i < N) :
    ∀ q k a (ks : List Nat), a + q = N → q < k → i < a → (∀ j ∈ ks, i < j ∧ j < a) → ks.length ≤ a → ∃ ks' : List Nat, (∀ j ∈ ks', i < j ∧ j < N) ∧ ks'.length ≤ N ∧
      law24_DepsFits_l13 n k (((N : Int), bits, (), (i : Int), (), (a : Int), ()), (l5, (x6, (), (), (), (), ()), ks.map (fun j => eqn (nm j)), ())) = some (.inl (((N : Int), bits, (), (i : Int), (), ()), (l5, (x6, (), (), (), (), ()), ks'.map (fun j => eqn (nm j)), ()))) := by
  intro q
  induction q with
  | zero =>
    intro k a ks ha hk hia hks hl
    obtain ⟨k, rfl⟩ : ∃ q, k = q + 1 := ⟨k - 1, by omega⟩
    obtain rfl : a = N := by omega
    exact ⟨ks, hks, hl, by rw [law24_DepsFits_l13, if_neg (by simp)]⟩
  | succ q ih =>
    intro k a ks ha hk hia hks hl
    obtain ⟨k, rfl⟩ : ∃ q, k = q + 1 := ⟨k - 1, by omega⟩
    have hw := w64_up a (by omega)
    have skip := ih k (a + 1) ks (by omega) (by omega) (by omega) (fun j hj => by have := hks j hj; omega) (by omega)
    rw [law24_DepsFits_l13, if_pos (decide_eq_true (show (a : Int) < (N : Int) by omega))]
    by_cases h1 : (i : Int) < (bits.length : Int)
    · rw [if_pos (decide_eq_true h1), if_pos (show (0 : Int) ≤ (i : Int) ∧ (i : Int) < (bits.length : Int) by omega)]
      have hu : 0 ≤ IntKind.u64.wrap (a : Int) := wrap_u64_nonneg _
      dsimp only
      rw [if_neg (show ¬ IntKind.u64.wrap (a : Int) < 0 by omega)]
      by_cases h2 : (bitsOp .and .i64 (shrOp .i64 (rdT ((.int .i64) : Ty) bits (i : Int)) (IntKind.u64.wrap (a : Int))) 1 == 1) = true
      · rw [if_pos h2, num_at hn a (by omega)]
        have hs := small_at (i := a) (by omega)
        dsimp only
        rw [if_pos (show (⟨#[110]⟩ : ByteArray).size + (itoaS (a : Int)).size ≤ 9223372036854775807 by have : (⟨#[110]⟩ : ByteArray).size = 1 := rfl; omega), if_pos (by simp only [List.length_map, List.length_cons, List.length_nil]; omega), hw]
        obtain ⟨ks', h3, h4, h5⟩ := ih k (a + 1) (ks ++ [a]) (by omega) (by omega) (by omega) (fun j hj => by
          rcases List.mem_append.1 hj with h | h
          · have := hks j h; omega
          · simp at h; omega) (by simp; omega)
        refine ⟨ks', h3, h4, ?_⟩
        rw [List.map_append] at h5
        exact h5
      · rw [if_neg h2]
        rw [hw]
        exact skip
    · rw [if_neg (by simpa using h1)]
      dsimp only
      rw [hw]
      exact skip
structure Nodes (N : Nat) (l : List ND) (f : Nat → List Nat) : Prop where
  len : l.length = N
  at_ : ∀ i, i < N → l.getD i (Ty.dflt ty0) = node (nm i) ((f i).map fun j => eqn (nm j))
theorem build {n : Nat} {bits : List Int} {N : Nat} (hN : N ≤ 16) (hn : 20 < n) :
    ∀ q k i (l : List ND) (f : Nat → List Nat), i + q = N → q < k → Nodes i l f → (∀ a, a < i → (∀ j ∈ f a, a < j ∧ j < N) ∧ (f a).length ≤ N) → ∃ (l' : List ND) (f' : Nat → List Nat), Nodes N l' f' ∧ (∀ a, a < N → (∀ j ∈ f' a, a < j ∧ j < N) ∧ (f' a).length ≤ N) ∧
      law24_DepsFits_l9 n k (((N : Int), bits, (), (i : Int), ()), (l, ())) = some (.inl (((), ()), (l', ()))) := by
  intro q
  induction q with
  | zero =>
    intro k i l f hi hk hl hf
    obtain ⟨k, rfl⟩ : ∃ q, k = q + 1 := ⟨k - 1, by omega⟩
    obtain rfl : i = N := by omega
    exact ⟨l, f, hl, hf, by rw [law24_DepsFits_l9, if_neg (by simp)]⟩
  | succ q ih =>
    intro k i l f hi hk hl hf
    obtain ⟨k, rfl⟩ : ∃ q, k = q + 1 := ⟨k - 1, by omega⟩
    have hs := small_at (i := i) (by omega)
    have hw := w64_up i (by omega)
    obtain ⟨ks, h1, h2, h3⟩ := edges (n := n) (bits := bits) (l5 := l) (x6 := nm i) hN (by omega) (show i < N by omega) (N - (i + 1)) n (i + 1) [] (by omega) (by omega) (by omega) (fun j hj => by cases hj) (by simp)
    have h3' : law24_DepsFits_l13 n n (((N : Int), bits, (), (i : Int), (), ((i + 1 : Nat) : Int), ()), (l, ((⟨#[110]⟩ : ByteArray) ++ itoaS (i : Int), (), (), (), (), ()), [], ())) = _ := h3
    obtain ⟨l', f', h4, h5, h6⟩ := ih k (i + 1) (l ++ [node (nm i) (ks.map fun j => eqn (nm j))]) (fun a => if a = i then ks else f a) (by omega) (by omega)
      ⟨by rw [List.length_append, hl.len]; rfl, fun a ha => by
        by_cases e : a = i
        · subst e
          rw [if_pos rfl, List.getD_eq_getElem?_getD, List.getElem?_append_right (by rw [hl.len]; exact Nat.le_refl _), hl.len, Nat.sub_self]
          rfl
        · rw [if_neg e, List.getD_eq_getElem?_getD, List.getElem?_append_left (by rw [hl.len]; omega), ← List.getD_eq_getElem?_getD]
          exact hl.at_ a (by omega)⟩
      (fun a ha => by
        by_cases e : a = i
        · subst e; rw [if_pos rfl]; exact ⟨h1, h2⟩
        · rw [if_neg e]; exact hf a (by omega))
    refine ⟨l', f', h4, h5, ?_⟩
    rw [law24_DepsFits_l9, if_pos (decide_eq_true (show (i : Int) < (N : Int) by omega)), num_at (by omega) i (by omega)]
    dsimp only
    rw [if_pos (show (⟨#[110]⟩ : ByteArray).size + (itoaS (i : Int)).size ≤ 9223372036854775807 by have : (⟨#[110]⟩ : ByteArray).size = 1 := rfl; omega), hw, h3']
    dsimp only
    rw [if_pos (by rw [hl.len]; simp only [List.length_cons, List.length_nil]; omega), hw]
    exact h6
/-- What a node's equations use. -/
theorem mem_compS {s : ByteArray} {l : SL} (h : s ∈ compS l) : s ∈ l := by
  unfold compS Lib.compact Lib.compactUpTo at h
  obtain ⟨b, hb, rfl⟩ := List.mem_map.1 h
  obtain ⟨i, hi, rfl⟩ := List.mem_map.1 hb
  have hi := List.mem_range.1 (List.mem_filter.1 hi).1
  rw [List.length_map] at hi
  have e : (l.map (fun q : ByteArray => q.data.toList)).toArray[i]! = (l[i]'hi).data.toList := by
    simp [hi]
  rw [e]
  have : (⟨(l[i]'hi).data.toList.toArray⟩ : ByteArray) = l[i]'hi := by simp
  rw [this]
  exact List.getElem_mem hi
theorem len_compS (l : SL) : (compS l).length ≤ l.length := by
  unfold compS Lib.compact Lib.compactUpTo
  rw [List.length_map, List.length_map, List.length_map]
  have := List.length_filter_le (Lib.keeps (l.map fun q : ByteArray => q.data.toList).toArray) (List.range l.length)
  simpa using this
theorem calls_loop {n : Nat} {ks : List Nat} (hk : ∀ j ∈ ks, j < 17) (hl : ks.length ≤ 16) : ∀ q k i (acc : SL), i + q = ks.length → q < k → acc = (ks.take i).map nm →
    scope_Calls_l3 n k (((), ks.map (fun j => eqn (nm j)), (ks.length : Int), (i : Int), ()), (acc, ())) = some (.inl (((), ()), (ks.map nm, ()))) := by
  intro q
  induction q with
  | zero =>
    intro k i acc hi hk' ha
    obtain ⟨k, rfl⟩ : ∃ q, k = q + 1 := ⟨k - 1, by omega⟩
    obtain rfl : i = ks.length := by omega
    rw [List.take_length] at ha
    rw [scope_Calls_l3, if_neg (by simp), ha]
  | succ q ih =>
    intro k i acc hi hk' ha
    obtain ⟨k, rfl⟩ : ∃ q, k = q + 1 := ⟨k - 1, by omega⟩
    have hil : i < ks.length := by omega
    have hj := hk _ (List.getElem_mem hil)
    have e1 : rdT ty11 (ks.map (fun j => eqn (nm j))) (i : Int) = eqn (nm (ks[i]'hil)) := by
      rw [rdT_nat, List.getD_eq_getElem?_getD, List.getElem?_map, List.getElem?_eq_getElem hil]; rfl
    have hal : acc.length = i := by rw [ha, List.length_map, List.length_take]; omega
    rw [scope_Calls_l3, if_pos (decide_eq_true (show (i : Int) < (ks.length : Int) by omega)), if_pos (show (0 : Int) ≤ (i : Int) ∧ (i : Int) < ((ks.map (fun j => eqn (nm j))).length : Int) by rw [List.length_map]; omega), e1]
    have e2 : ((((eqn (nm (ks[i]'hil))).2).2).2).1 = nm (ks[i]'hil) := rfl
    rw [e2, if_pos (by rw [(small_at hj).2.2]; rfl), if_pos (show (acc.length + [nm (ks[i]'hil)].length) * 16 ≤ 140737488355328 by rw [List.length_singleton]; omega), w64_up i (by omega)]
    refine ih k (i + 1) _ (by omega) (by omega) ?_
    rw [List.take_succ_eq_append_getElem hil, List.map_append, ha]
    rfl
def U (ks : List Nat) : SL := compS (sortS (ks.map nm))
theorem calls_at {n : Nat} {ks : List Nat} (s : ByteArray) (hk : ∀ j ∈ ks, j < 17) (hl : ks.length ≤ 16) (hn : 30 < n) : scope_Calls n (((s, [], [], [], (ks.map fun j => eqn (nm j)), ()), ()), ()) = some (((), ()), (U ks, ())) := by
  obtain ⟨n, rfl⟩ : ∃ q, n = q + 1 := ⟨n - 1, by omega⟩
  have e := calls_loop (n := n) hk hl ks.length n 0 [] (by omega) (by omega) (by simp)
  have e' : scope_Calls_l3 n n (((), ks.map (fun j => eqn (nm j)), ((ks.map (fun j => eqn (nm j))).length : Int), 0, ()), ([], ())) = some (.inl (((), ()), (ks.map nm, ()))) := by rw [List.length_map]; exact e
  rw [scope_Calls, e']
  dsimp only
  have e1 : slices_Sort_string n (((), ()), (ks.map nm, ())) = some (((), ()), (sortS (ks.map nm), ())) := by
    show sortSem 9 _ = _
    unfold sortSem
    rw [if_pos (show (ks.map nm).length ≤ 140737488355328 by rw [List.length_map]; omega)]
  have e2 : slices_Compact_string n (((), ()), (sortS (ks.map nm), ())) = some (((), ()), ((), U ks, ())) := by
    show compSem 9 _ = _
    unfold compSem
    rw [if_pos (show (sortS (ks.map nm)).length ≤ 140737488355328 by rw [(sortS_perm _).length_eq, List.length_map]; omega)]
    rfl
  rw [e1]
  dsimp only
  rw [e2]
end Go.Proofs.YtkmeghmhgbbmhaaDoor.Pure
