/- SchedFits, in plain words: what the small functions answer. By this session. -/
import Derived.Test.YtgdolcaijbkaeaaDoorCSchedFitsR
import Derived.Test.YtgdolcaijbkaeaaDoorCmPl
import Derived.KernelRfl
namespace Go.Proofs.YtgdolcaijbkaeaaDoor.Pure
open Go Go.Proofs.YtgdolcaijbkaeaaDoor.Cm
open Classical
set_option linter.unusedVariables false
set_option maxRecDepth 100000
abbrev SL := List ByteArray
abbrev PL := ty0.T
theorem scan {R : Type} {len : Nat} {F : Nat → Nat → R} {p : Nat → Bool} {found : Nat → R} {miss : R} (step : ∀ k i, i < len → F (k + 1) i = if p i then found i else F k (i + 1)) (last : ∀ k, F (k + 1) len = miss) :
    ∀ d k i, i + d = len → d < k → (∃ j, i ≤ j ∧ j < len ∧ p j = true ∧ F k i = found j) ∨ ((∀ j, i ≤ j → j < len → p j = false) ∧ F k i = miss) := by
  intro d
  induction d with
  | zero =>
    intro k i hi hk
    obtain ⟨k, rfl⟩ : ∃ q, k = q + 1 := ⟨k - 1, by omega⟩
    obtain rfl : i = len := by omega
    exact .inr ⟨fun j h1 h2 => by omega, last k⟩
  | succ d ih =>
    intro k i hi hk
    obtain ⟨k, rfl⟩ : ∃ q, k = q + 1 := ⟨k - 1, by omega⟩
    rw [step k i (by omega)]
    cases hp : p i with
    | true => exact .inl ⟨i, Nat.le_refl _, by omega, hp, by simp⟩
    | false =>
      simp only [Bool.false_eq_true, if_false]
      rcases ih k (i + 1) (by omega) (by omega) with ⟨j, h1, h2, h3, h4⟩ | ⟨h1, h2⟩
      · exact .inl ⟨j, by omega, h2, h3, h4⟩
      · refine .inr ⟨fun j h3 h4 => ?_, h2⟩
        by_cases e : j = i
        · rw [e]; exact hp
        · exact h1 j (by omega) h4
theorem mem_getD {l : SL} {x : ByteArray} : x ∈ l ↔ ∃ j, j < l.length ∧ l.getD j ByteArray.empty = x := by
  constructor
  · intro h
    obtain ⟨j, hj, e⟩ := List.mem_iff_getElem.1 h
    exact ⟨j, hj, by rw [List.getD_eq_getElem?_getD, List.getElem?_eq_getElem hj]; exact e⟩
  · rintro ⟨j, hj, rfl⟩
    exact getD_mem l j hj _
theorem kq (a b : ByteArray) : (keyEq (.str : Ty) a b = true) ↔ a = b := keyS_true a b
abbrev keys {V : Type} (m : List (ByteArray × V)) : SL := m.map Prod.fst
theorem mfind_in {V : Type} {s : ByteArray} : ∀ {m : List (ByteArray × V)}, (mfind (keyEq (.str : Ty)) s m).isSome = true ↔ s ∈ keys m
  | [] => by simp [mfind, keys]
  | p :: m => by
    unfold mfind
    by_cases h : s = p.1
    · rw [if_pos ((kq _ _).2 h)]
      simp [keys, h]
    · rw [if_neg (fun e => h ((kq _ _).1 e)), mfind_in]
      simp [keys, h]
theorem mfind_out {V : Type} {s : ByteArray} {m : List (ByteArray × V)} (h : s ∉ keys m) : mfind (keyEq (.str : Ty)) s m = none := by
  cases e : mfind (keyEq (.str : Ty)) s m with
  | none => rfl
  | some v => exact absurd (mfind_in.1 (by rw [e]; rfl)) h
theorem mfind_mset {V : Type} (k : ByteArray) (v : V) (s : ByteArray) : ∀ m : List (ByteArray × V), mfind (keyEq (.str : Ty)) s (mset (keyEq (.str : Ty)) k v m) = if s = k then some v else mfind (keyEq (.str : Ty)) s m
  | [] => by
    unfold mset mfind
    by_cases h : s = k
    · rw [if_pos ((kq _ _).2 h), if_pos h]
    · rw [if_neg (fun e => h ((kq _ _).1 e)), if_neg h]; rfl
  | p :: m => by
    unfold mset
    by_cases hk : k = p.1
    · rw [if_pos ((kq _ _).2 hk)]
      unfold mfind
      by_cases h : s = k
      · rw [if_pos ((kq _ _).2 h), if_pos h]
      · rw [if_neg (fun e => h ((kq _ _).1 e)), if_neg h, if_neg (fun e => h (((kq _ _).1 e).trans hk.symm))]
    · rw [if_neg (fun e => hk ((kq _ _).1 e))]
      unfold mfind
      by_cases h : s = p.1
      · rw [if_pos ((kq _ _).2 h), if_pos ((kq _ _).2 h), if_neg (fun e => hk (e.symm.trans h))]
      · rw [if_neg (fun e => h ((kq _ _).1 e)), if_neg (fun e => h ((kq _ _).1 e)), mfind_mset k v s m]
theorem insS_perm (x : ByteArray) : ∀ l, (insS x l).Perm (x :: l)
  | [] => .refl _
  | y :: r => by
    unfold insS
    split
    · exact ((insS_perm x r).cons y).trans (.swap x y r)
    · exact .refl _
theorem sortS_perm : ∀ l : SL, (sortS l).Perm l
  | [] => .refl _
  | x :: l => by rw [sortS_cons]; exact (insS_perm x _).trans ((sortS_perm l).cons x)
theorem among_at {n : Nat} {l : SL} (x : ByteArray) (hn : l.length + 1 < n) (hl : l.length < 4611686018427387904) : (x ∈ l ∧ ∃ j : Nat, ref_Among n (((), x, ()), (l, ())) = some (((j : Int), ()), (l, ()))) ∨ (x ∉ l ∧ ref_Among n (((), x, ()), (l, ())) = some (((-1), ()), (l, ()))) := by
  obtain ⟨n, rfl⟩ : ∃ q, n = q + 1 := ⟨n - 1, by omega⟩
  have h := scan (len := l.length) (F := fun k i => ref_Among_l2 n k (((), x, (i : Int), ()), (l, ()))) (p := fun i => strEq (l.getD i ByteArray.empty) x) (found := fun i => some (.inr (.inl (((i : Int), ()), (l, ()))))) (miss := some (.inl ((), (l, ()))))
    (fun k i hi => by
      show ref_Among_l2 n (k + 1) _ = _
      rw [ref_Among_l2, if_pos (decide_eq_true (show (i : Int) < (l.length : Int) by omega)), if_pos (show (0 : Int) ≤ (i : Int) ∧ (i : Int) < (l.length : Int) by omega), rdT_nat, w64_up i (by omega)]
      rfl)
    (fun k => by
      show ref_Among_l2 n (k + 1) _ = _
      rw [ref_Among_l2, if_neg (by simp)]) l.length n 0 (by omega) (by omega)
  rcases h with ⟨j, _, h2, h3, h4⟩ | ⟨h3, h4⟩
  · left
    simp only [strEq_iff, decide_eq_true_eq] at h3
    refine ⟨mem_getD.2 ⟨j, h2, h3⟩, j, ?_⟩
    rw [ref_Among]
    exact (congrArg (fun r => match r with | some (.inl (_, (l3, _))) => some (((-1), ()), (l3, ())) | some (.inr (.inl ((x4, _), (l5, _)))) => some ((x4, ()), (l5, ())) | some (.inr (.inr (_))) => none | none => none) h4)
  · right
    refine ⟨fun hm => ?_, ?_⟩
    · obtain ⟨j, hj, e⟩ := mem_getD.1 hm
      have := h3 j (Nat.zero_le _) hj
      rw [strEq_iff, e] at this
      simp at this
    · rw [ref_Among]
      exact (congrArg (fun r => match r with | some (.inl (_, (l3, _))) => some (((-1), ()), (l3, ())) | some (.inr (.inl ((x4, _), (l5, _)))) => some ((x4, ()), (l5, ())) | some (.inr (.inr (_))) => none | none => none) h4)

/-! ### what the guard says -/
theorem texts_at {n : Nat} {l : SL} (hn : l.length + 1 < n) (hl : l.length < 4611686018427387904) : ∃ b, world_texts n ((l, ()), ()) = some ((b, ()), ()) ∧ (b = true → l.length ≤ 20) := by
  obtain ⟨n, rfl⟩ : ∃ q, n = q + 1 := ⟨n - 1, by omega⟩
  have h := scan (len := l.length) (F := fun k i => world_texts_l2 n k ((l, (i : Int), ()), ())) (p := fun i => decide (((l.getD i (Ty.dflt .str)).size : Int) > 60)) (found := fun i => some (.inr (.inl ((false, ()), ())))) (miss := some (.inl ((l, ()), ())))
    (fun k i hi => by
      show world_texts_l2 n (k + 1) _ = _
      rw [world_texts_l2, if_pos (decide_eq_true (show (i : Int) < (l.length : Int) by omega)), if_pos (show (0 : Int) ≤ (i : Int) ∧ (i : Int) < (l.length : Int) by omega), w64_up i (by omega)]
      rfl)
    (fun k => by
      show world_texts_l2 n (k + 1) _ = _
      rw [world_texts_l2, if_neg (by simp)]) l.length n 0 (by omega) (by omega)
  rw [world_texts]
  rcases h with ⟨j, _, h2, h3, h4⟩ | ⟨h3, h4⟩
  · refine ⟨false, ?_, fun h => by cases h⟩
    rw [show world_texts_l2 n n ((l, 0, ()), ()) = _ from h4]
  · refine ⟨decide ((l.length : Int) ≤ 20), ?_, fun h => by have := of_decide_eq_true h; omega⟩
    rw [show world_texts_l2 n n ((l, 0, ()), ()) = _ from h4]
abbrev tp (p : PL) := (p.1, p.2.1, p.2.2.1, p.2.2.2.1, p.2.2.2.2.1, p.2.2.2.2.2.1, p.2.2.2.2.2.2.1, p.2.2.2.2.2.2.2.1, p.2.2.2.2.2.2.2.2, ())
abbrev argsOf (p : PL) : List ty7.T := p.2.2.2.2.1
abbrev clksOf (p : PL) : List ty11.T := p.2.2.2.2.2.1
abbrev leftOf (p : PL) : SL := p.1
theorem args_at {n : Nat} (l : List PL) (x2 : Int) (p : PL) (hn : (argsOf p).length + 1 < n) (hl : (argsOf p).length < 4611686018427387904) :
    world_Plains_l8 n n ((l, x2, (), 0, ()), (tp p, ())) = some (.inr (.inl ((false, ()), ()))) ∨ world_Plains_l8 n n ((l, x2, (), 0, ()), (tp p, ())) = some (.inl ((l, x2, (), ()), (tp p, ()))) := by
  have h := scan (len := (argsOf p).length) (F := fun k i => world_Plains_l8 n k ((l, x2, (), (i : Int), ()), (tp p, ()))) (p := fun i => decide (((((argsOf p).getD i (Ty.dflt ty7)).1).size : Int) > 60)) (found := fun i => some (.inr (.inl ((false, ()), ())))) (miss := some (.inl ((l, x2, (), ()), (tp p, ()))))
    (fun k i hi => by
      show world_Plains_l8 n (k + 1) _ = _
      rw [world_Plains_l8, if_pos (decide_eq_true (show (i : Int) < ((argsOf p).length : Int) by omega)), if_pos (show (0 : Int) ≤ (i : Int) ∧ (i : Int) < ((argsOf p).length : Int) by omega), w64_up i (by omega)]
      rfl)
    (fun k => by
      show world_Plains_l8 n (k + 1) _ = _
      rw [world_Plains_l8, if_neg (by simp)]) (argsOf p).length n 0 (by omega) (by omega)
  rcases h with ⟨j, _, h2, h3, h4⟩ | ⟨h3, h4⟩
  · exact .inl h4
  · exact .inr h4
theorem clks_at {n : Nat} (l : List PL) (x2 : Int) (p : PL) (hn : (clksOf p).length + 1 < n) (hl : (clksOf p).length < 4611686018427387904) :
    world_Plains_l13 n n ((l, x2, (), 0, ()), (tp p, ())) = some (.inr (.inl ((false, ()), ()))) ∨ world_Plains_l13 n n ((l, x2, (), 0, ()), (tp p, ())) = some (.inl ((l, x2, ()), ())) := by
  have h := scan (len := (clksOf p).length) (F := fun k i => world_Plains_l13 n k ((l, x2, (), (i : Int), ()), (tp p, ()))) (p := fun i => decide (((((clksOf p).getD i (Ty.dflt ty11)).1).size : Int) > 60)) (found := fun i => some (.inr (.inl ((false, ()), ())))) (miss := some (.inl ((l, x2, ()), ())))
    (fun k i hi => by
      show world_Plains_l13 n (k + 1) _ = _
      rw [world_Plains_l13, if_pos (decide_eq_true (show (i : Int) < ((clksOf p).length : Int) by omega)), if_pos (show (0 : Int) ≤ (i : Int) ∧ (i : Int) < ((clksOf p).length : Int) by omega), w64_up i (by omega)]
      rfl)
    (fun k => by
      show world_Plains_l13 n (k + 1) _ = _
      rw [world_Plains_l13, if_neg (by simp)]) (clksOf p).length n 0 (by omega) (by omega)
  rcases h with ⟨j, _, h2, h3, h4⟩ | ⟨h3, h4⟩
  · exact .inl h4
  · exact .inr h4
abbrev E (l : List PL) (i : Nat) : PL := l.getD i (Ty.dflt ty0)
def Small (p : PL) : Prop := (leftOf p).length ≤ 20 ∧ (argsOf p).length ≤ 10 ∧ (clksOf p).length ≤ 10
theorem plains_loop {n : Nat} {l : List PL} {B : Nat} (hB : ∀ i, i < l.length → (leftOf (E l i)).length ≤ B) (hn : B + 100 < n) (hb : B < 4611686018427387904) (hl : l.length < 4611686018427387904) :
    ∀ d k i, i + d = l.length → d < k → (∀ j, j < i → Small (E l j)) → (world_Plains_l2 n k ((l, (i : Int), ()), ()) = some (.inr (.inl ((false, ()), ())))) ∨ ((∀ j, j < l.length → Small (E l j)) ∧ world_Plains_l2 n k ((l, (i : Int), ()), ()) = some (.inl ((l, ()), ()))) := by
  intro d
  induction d with
  | zero =>
    intro k i hi hk hs
    obtain ⟨k, rfl⟩ : ∃ q, k = q + 1 := ⟨k - 1, by omega⟩
    obtain rfl : i = l.length := by omega
    exact .inr ⟨hs, by rw [world_Plains_l2, if_neg (by simp)]⟩
  | succ d ih =>
    intro k i hi hk hs
    obtain ⟨k, rfl⟩ : ∃ q, k = q + 1 := ⟨k - 1, by omega⟩
    have hBi := hB i (by omega)
    obtain ⟨b, e1, hb1⟩ := texts_at (n := n) (l := leftOf (E l i)) (by omega) (by omega)
    have e1' : world_texts n (((rdT ty0 l (i : Int)).1, ()), ()) = _ := e1
    rw [world_Plains_l2, if_pos (decide_eq_true (show (i : Int) < (l.length : Int) by omega)), if_pos (show (0 : Int) ≤ (i : Int) ∧ (i : Int) < (l.length : Int) by omega), e1']
    dsimp only
    cases b with
    | false => exact .inl (by rw [if_pos (by simp)])
    | true =>
      rw [if_neg (by simp)]
      by_cases h1 : decide (((rdT ty0 l (i : Int)).2.2.2.2.1.length : Int) > 10) = true
      · exact .inl (by rw [if_pos h1])
      rw [if_neg h1]
      by_cases h2 : decide (((rdT ty0 l (i : Int)).2.2.2.2.2.1.length : Int) > 10) = true
      · exact .inl (by rw [if_pos h2])
      rw [if_neg h2]
      have h1' : (argsOf (E l i)).length ≤ 10 := by
        have : ¬ ((argsOf (E l i)).length : Int) > 10 := fun h => h1 (decide_eq_true h)
        omega
      have h2' : (clksOf (E l i)).length ≤ 10 := by
        have : ¬ ((clksOf (E l i)).length : Int) > 10 := fun h => h2 (decide_eq_true h)
        omega
      split
      · exact .inl rfl
      · rcases args_at (n := n) l (i : Int) (E l i) (by omega) (by omega) with e2 | e2
        · have e2' : world_Plains_l8 n n ((l, (i : Int), (), 0, ()), (tp (rdT ty0 l (i : Int)), ())) = _ := e2
          exact .inl (by rw [e2'])
        · have e2' : world_Plains_l8 n n ((l, (i : Int), (), 0, ()), (tp (rdT ty0 l (i : Int)), ())) = _ := e2
          rw [e2']
          dsimp only
          rcases clks_at (n := n) l (i : Int) (E l i) (by omega) (by omega) with e3 | e3
          · have e3' : world_Plains_l13 n n ((l, (i : Int), (), 0, ()), (tp (E l i), ())) = _ := e3
            exact .inl (by rw [e3'])
          · have e3' : world_Plains_l13 n n ((l, (i : Int), (), 0, ()), (tp (E l i), ())) = _ := e3
            rw [e3']
            dsimp only
            rw [w64_up i (by omega)]
            exact ih k (i + 1) (by omega) (by omega) (fun j hj => by
              by_cases e : j = i
              · subst e; exact ⟨hb1 rfl, h1', h2'⟩
              · exact hs j (by omega))
theorem plains_at {n : Nat} {l : List PL} {B : Nat} (hB : ∀ i, i < l.length → (leftOf (E l i)).length ≤ B) (hn : B + l.length + 101 < n) (hb : B < 4611686018427387904) (hl : l.length < 4611686018427387904) :
    ∃ b, world_Plains n ((l, ()), ()) = some ((b, ()), ()) ∧ (b = true → l.length ≤ 30 ∧ ∀ j, j < l.length → Small (E l j)) := by
  obtain ⟨n, rfl⟩ : ∃ q, n = q + 1 := ⟨n - 1, by omega⟩
  rw [world_Plains]
  rcases plains_loop (n := n) hB (by omega) hb hl l.length n 0 (by omega) (by omega) (fun j hj => absurd hj (Nat.not_lt_zero _)) with h | ⟨h1, h⟩
  · have h' : world_Plains_l2 n n ((l, 0, ()), ()) = _ := h
    exact ⟨false, by rw [h'], fun h => by cases h⟩
  · have h' : world_Plains_l2 n n ((l, 0, ()), ()) = _ := h
    exact ⟨decide ((l.length : Int) ≤ 30), by rw [h'], fun h => ⟨by have := of_decide_eq_true h; omega, h1⟩⟩
end Go.Proofs.YtgdolcaijbkaeaaDoor.Pure
