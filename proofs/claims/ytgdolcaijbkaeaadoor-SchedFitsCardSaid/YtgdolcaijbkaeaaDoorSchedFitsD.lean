/- SchedFits, in plain words: the order. By this session. -/
import Derived.Test.YtgdolcaijbkaeaaDoorSchedFitsC
namespace Go.Proofs.YtgdolcaijbkaeaaDoor.Pure
open Go Go.Proofs.YtgdolcaijbkaeaaDoor.Cm
open Classical
set_option linter.unusedVariables false
set_option maxRecDepth 100000
abbrev NL := List Nat
abbrev ints (q : NL) : List Int := q.map Int.ofNat
theorem index_at {n : Nat} {dn : List Bool} (hd : dn.length ≤ 30) (hn : 100 < n) : ∃ x : Int, slices_Index_bool_bool n ((dn, false, ()), ()) = some ((x, ()), ()) := by
  obtain ⟨n, rfl⟩ : ∃ q, n = q + 1 := ⟨n - 1, by omega⟩
  have h := scan (len := dn.length) (F := fun k i => slices_Index_bool_bool_l2 n k ((dn, false, (dn.length : Int), (i : Int), ()), ())) (p := fun i => false == (dn.getD i (Ty.dflt .bool))) (found := fun i => some (.inr (.inl (((i : Int), ()), ())))) (miss := some (.inl ((), ())))
    (fun k i hi => by
      show slices_Index_bool_bool_l2 n (k + 1) _ = _
      rw [slices_Index_bool_bool_l2, if_pos (decide_eq_true (show (i : Int) < (dn.length : Int) by omega)), if_pos (show (0 : Int) ≤ (i : Int) ∧ (i : Int) < (dn.length : Int) by omega), rdT_nat, w64_up i (by omega)])
    (fun k => by
      show slices_Index_bool_bool_l2 n (k + 1) _ = _
      rw [slices_Index_bool_bool_l2, if_neg (by simp)]) dn.length n 0 (by omega) (by omega)
  rw [slices_Index_bool_bool]
  rcases h with ⟨j, _, h2, h3, h4⟩ | ⟨h3, h4⟩
  · have h4' : slices_Index_bool_bool_l2 n n ((dn, false, (dn.length : Int), 0, ()), ()) = _ := h4
    rw [h4']
    exact ⟨_, rfl⟩
  · have h4' : slices_Index_bool_bool_l2 n n ((dn, false, (dn.length : Int), 0, ()), ()) = _ := h4
    rw [h4']
    exact ⟨_, rfl⟩
/-- The next one that is ready. -/
def Rdy (l : List PL) (m : GM) (dn : List Bool) (i : Nat) : Prop := i < l.length ∧ dn.getD i false = false ∧ ∀ s ∈ need (E l i), ∀ g : Nat, fd s m = some (g : Int) → dn.getD g false = true
theorem o10_at {n : Nat} {l : List PL} {m : GM} {dn : List Bool} {out : List Int} (hn : 1000 < n) (hl : l.length ≤ 30) (hs : ∀ i, i < l.length → Small (E l i)) (hm : Giv l l.length 0 m) (hd : dn.length = l.length) :
    ∀ d k i, i + d = l.length → d < k → (∃ j : Nat, Rdy l m dn j ∧ sched_Order_2_l10 n k ((l, (), (), (), (-1), l, (l.length : Int), (i : Int), ()), (((), ()), ((), ()), out, dn, m, ())) = some (.inl ((l, (), (), (), (j : Int), ()), (((), ()), ((), ()), out, dn, m, ())))) ∨
      sched_Order_2_l10 n k ((l, (), (), (), (-1), l, (l.length : Int), (i : Int), ()), (((), ()), ((), ()), out, dn, m, ())) = some (.inl ((l, (), (), (), (-1), ()), (((), ()), ((), ()), out, dn, m, ()))) := by
  intro d
  induction d with
  | zero =>
    intro k i hi hk
    obtain ⟨k, rfl⟩ : ∃ q, k = q + 1 := ⟨k - 1, by omega⟩
    obtain rfl : i = l.length := by omega
    exact .inr (by rw [sched_Order_2_l10, if_neg (by simp)])
  | succ d ih =>
    intro k i hi hk
    obtain ⟨k, rfl⟩ : ∃ q, k = q + 1 := ⟨k - 1, by omega⟩
    have hsi := hs i (by omega)
    rw [sched_Order_2_l10, if_pos (decide_eq_true (show (i : Int) < (l.length : Int) by omega)), if_pos (show (0 : Int) ≤ (i : Int) ∧ (i : Int) < (l.length : Int) by omega), if_pos (show (0 : Int) ≤ (i : Int) ∧ (i : Int) < (dn.length : Int) by omega)]
    by_cases hdi : (!(rdT (.bool : Ty) dn (i : Int))) = true
    · rw [if_pos hdi]
      obtain ⟨b, h1, h2⟩ := o1_at (n := n) hm hd hsi (by omega)
      have h1' : sched_Order_1 n ((tp (rdT ty0 l (i : Int)), (), (), ()), (((), ()), ((), ()), m, dn, ())) = _ := h1
      rw [h1']
      dsimp only
      cases b with
      | true =>
        rw [if_pos rfl]
        refine .inl ⟨i, ⟨by omega, ?_, h2 rfl⟩, rfl⟩
        have h : (!dn.getD i false) = true := hdi
        simpa using h
      | false =>
        rw [if_neg (by simp), w64_up i (by omega)]
        exact ih k (i + 1) (by omega) (by omega)
    · rw [if_neg hdi]
      dsimp only
      rw [w64_up i (by omega)]
      exact ih k (i + 1) (by omega) (by omega)
structure Ord (l : List PL) (m : GM) (q : NL) (dn : List Bool) : Prop where
  nd : q.Nodup
  rng : ∀ j ∈ q, j < l.length
  len : dn.length = l.length
  done : ∀ g, dn.getD g false = true → g ∈ q
  undone : ∀ g ∈ q, dn.getD g false = true
  ok : ∀ a, a < q.length → ∀ s ∈ need (E l (q.getD a 0)), ∀ g : Nat, fd s m = some (g : Int) → g ∈ q.take a
theorem getD_set_b (dn : List Bool) (i g : Nat) (hi : i < dn.length) : (List.set dn i true).getD g false = if g = i then true else dn.getD g false := by
  rw [List.getD_eq_getElem?_getD, List.getD_eq_getElem?_getD, List.getElem?_set]
  by_cases h : g = i
  · subst h; rw [if_pos rfl, if_pos hi, if_pos rfl]; rfl
  · rw [if_neg (fun e => h e.symm), if_neg h]
theorem ord_add {l : List PL} {m : GM} {q : NL} {dn : List Bool} (h : Ord l m q dn) {j : Nat} (hj : Rdy l m dn j) : Ord l m (q ++ [j]) (List.set dn j true) := by
  obtain ⟨h1, h2, h3⟩ := hj
  have hjd : j < dn.length := by rw [h.len]; exact h1
  have hjq : j ∉ q := fun hm => by have := h.undone j hm; rw [h2] at this; cases this
  refine ⟨?_, ?_, by rw [List.length_set]; exact h.len, ?_, ?_, ?_⟩
  · rw [List.nodup_append]
    refine ⟨h.nd, by simp, fun a ha b hb => ?_⟩
    rw [List.mem_singleton.1 hb]
    exact fun e => hjq (e ▸ ha)
  · intro i hi
    rcases List.mem_append.1 hi with hi | hi
    · exact h.rng i hi
    · rw [List.mem_singleton.1 hi]; exact h1
  · intro g hg
    rw [getD_set_b dn j g hjd] at hg
    by_cases e : g = j
    · rw [e]; simp
    · rw [if_neg e] at hg
      exact List.mem_append_left _ (h.done g hg)
  · intro g hg
    rw [getD_set_b dn j g hjd]
    by_cases e : g = j
    · rw [if_pos e]
    · rw [if_neg e]
      rcases List.mem_append.1 hg with hg | hg
      · exact h.undone g hg
      · exact absurd (List.mem_singleton.1 hg) e
  · intro a ha s hs g hg
    rw [List.length_append, List.length_singleton] at ha
    by_cases e : a < q.length
    · rw [List.take_append_of_le_length (by omega)]
      have hq : (q ++ [j]).getD a 0 = q.getD a 0 := by
        rw [List.getD_eq_getElem?_getD, List.getD_eq_getElem?_getD, List.getElem?_append_left e]
      rw [hq] at hs
      exact h.ok a e s hs g hg
    · obtain rfl : a = q.length := by omega
      have hq : (q ++ [j]).getD q.length 0 = j := by
        rw [List.getD_eq_getElem?_getD]; simp
      rw [hq] at hs
      rw [List.take_left]
      exact h.done g (h3 s hs g hg)
theorem o7_at {n : Nat} {l : List PL} {m : GM} (hn : 1000 < n) (hl : l.length ≤ 30) (hs : ∀ i, i < l.length → Small (E l i)) (hm : Giv l l.length 0 m) :
    ∀ d k (q : NL) (dn : List Bool), q.length + d = l.length → d < k → Ord l m q dn →
    (∃ q' dn', Ord l m q' dn' ∧ q'.length = l.length ∧ sched_Order_2_l7 n k ((l, (), (), (), ()), (((), ()), ((), ()), ints q, dn, m, ())) = some (.inl (((), ()), (ints q', ())))) ∨
    ∃ x : Int, sched_Order_2_l7 n k ((l, (), (), (), ()), (((), ()), ((), ()), ints q, dn, m, ())) = some (.inr (.inl (((), ErrV.at_ x (ErrV.sent 113), ()), ()))) := by
  intro d
  induction d with
  | zero =>
    intro k q dn hq hk ho
    obtain ⟨k, rfl⟩ : ∃ q, k = q + 1 := ⟨k - 1, by omega⟩
    exact .inl ⟨q, dn, ho, by omega, by rw [sched_Order_2_l7, if_neg (by simp; omega)]⟩
  | succ d ih =>
    intro k q dn hq hk ho
    obtain ⟨k, rfl⟩ : ∃ q, k = q + 1 := ⟨k - 1, by omega⟩
    rw [sched_Order_2_l7, if_pos (decide_eq_true (show ((ints q).length : Int) < (l.length : Int) by simp; omega))]
    rcases o10_at (n := n) (out := ints q) (by omega) hl hs hm ho.len l.length n 0 (by omega) (by omega) with ⟨j, hj, h2⟩ | h2
    · have h2' : sched_Order_2_l10 n n ((l, (), (), (), (-1), l, (l.length : Int), 0, ()), (((), ()), ((), ()), ints q, dn, m, ())) = _ := h2
      rw [h2']
      have hjd : j < dn.length := by rw [ho.len]; exact hj.1
      dsimp only
      rw [if_neg (by simp), if_pos (show (0 : Int) ≤ (j : Int) ∧ (j : Int) < (dn.length : Int) by omega), if_pos (by simp; omega)]
      have := ih k (q ++ [j]) (List.set dn j true) (by simp; omega) (by omega) (ord_add ho hj)
      have e : ints (q ++ [j]) = ints q ++ [(j : Int)] := by simp [ints]
      rw [e] at this
      exact this
    · have h2' : sched_Order_2_l10 n n ((l, (), (), (), (-1), l, (l.length : Int), 0, ()), (((), ()), ((), ()), ints q, dn, m, ())) = _ := h2
      rw [h2']
      obtain ⟨x, hx⟩ := index_at (n := n) (dn := dn) (by rw [ho.len]; exact hl) (by omega)
      dsimp only
      rw [if_pos (by simp), hx]
      exact .inr ⟨x, rfl⟩
structure Done (l : List PL) (q : NL) : Prop where
  nd : q.Nodup
  rng : ∀ j ∈ q, j < l.length
  len : q.length = l.length
  uniq : ∀ g g', g < l.length → g' < l.length → ∀ s, s ∈ leftOf (E l g) → s ∈ leftOf (E l g') → g = g'
  ok : ∀ a, a < q.length → ∀ s ∈ need (E l (q.getD a 0)), ∀ g, g < l.length → s ∈ leftOf (E l g) → g ∈ q.take a
theorem order_at {n : Nat} {l : List PL} (hn : 1002 < n) (hl : l.length ≤ 30) (hs : ∀ i, i < l.length → Small (E l i)) :
    (∃ q, Done l q ∧ sched_Order_2 n ((l, ()), ()) = some (((((), ()), (ErrV.nil, ()), ()), ()), (ints q, ()))) ∨
    ∃ x e, sched_Order_2 n ((l, ()), ()) = some (((((), ()), (ErrV.at_ x e, ()), ()), ()), ([], ())) := by
  obtain ⟨n, rfl⟩ : ∃ q, n = q + 1 := ⟨n - 1, by omega⟩
  rw [sched_Order_2]
  rcases givers_at (n := n) (by omega) hl hs with ⟨m, hm, h1⟩ | ⟨j, h1⟩
  · rw [h1]
    dsimp only
    rw [if_neg (show ¬ (!(errNil ErrV.nil)) = true by decide), if_pos (by omega)]
    have h0 : Ord l m [] (List.replicate l.length false) := by
      refine ⟨List.nodup_nil, by simp, by simp, ?_, by simp, fun a ha => by simp at ha⟩
      intro g hg
      rw [List.getD_eq_getElem?_getD, List.getElem?_replicate] at hg
      split at hg <;> simp at hg
    rcases o7_at (n := n) (by omega) hl hs hm l.length n [] (List.replicate l.length false) (by simp) (by omega) h0 with ⟨q, dn, ho, hq, h2⟩ | ⟨x, h2⟩
    · have h2' : sched_Order_2_l7 n n ((l, (), (), (), ()), (((), ()), ((), ()), [], List.replicate ((l.length : Int) : Int).toNat false, m, ())) = _ := h2
      rw [h2']
      exact .inl ⟨q, ⟨ho.nd, ho.rng, hq, fun g g' h1 h2 s h3 h4 => giv_uniq hm h1 h2 h3 h4, fun a ha s hs g hg hsg => ho.ok a ha s hs g (hm.old g hg s hsg)⟩, rfl⟩
    · have h2' : sched_Order_2_l7 n n ((l, (), (), (), ()), (((), ()), ((), ()), [], List.replicate ((l.length : Int) : Int).toNat false, m, ())) = _ := h2
      rw [h2']
      exact .inr ⟨_, _, rfl⟩
  · rw [h1]
    dsimp only
    rw [if_pos (show (!(errNil (ErrV.at_ j (ErrV.sent 110)))) = true by rfl)]
    exact .inr ⟨_, _, rfl⟩
end Go.Proofs.YtgdolcaijbkaeaaDoor.Pure
