/- DepsTurned, in plain words: light nodes. By this session. -/
import Derived.Test.YtnajjhjbkanigaaDoorDepsSaysC
namespace Go.Proofs.YtnajjhjbkanigaaDoor.Pure
open Go Go.Proofs.YtnajjhjbkanigaaDoor.Cm
open Classical
set_option linter.unusedVariables false
set_option linter.unusedSimpArgs false
set_option maxRecDepth 100000
abbrev big : Nat := 140737488400000
theorem texts_at {n : Nat} (hn : 140737488400000 < n) (hN : n < 4000000000000000000) (l : SL) (hl : l.length ≤ 140737488351232) : ∃ b : Bool, world_texts n ((l, ()), ()) = some ((b, ()), ()) := by
  obtain ⟨n, rfl⟩ : ∃ q, n = q + 1 := ⟨n - 1, by omega⟩
  have a := for_inv (F := world_texts_l2 n) (len := l.length) (st := fun i => ((l, (i : Int), ()), ())) (fun i => True) (fun r => r = some (.inl ((l, ()), ())) ∨ r = some (.inr (.inl ((false, ()), ())))) trivial (fun i k hi hI => by
    rw [world_texts_l2, if_pos (decide_eq_true (show (i : Int) < (l.length : Int) by omega)), if_pos (show 0 ≤ (i : Int) ∧ (i : Int) < (l.length : Int) from ⟨by omega, by omega⟩), w64_up i (by omega)]
    by_cases h1 : ((rdT (.str : Ty) l (i : Int)).size : Int) > 60
    · rw [if_pos (decide_eq_true h1)]
      exact .inr (.inr rfl)
    · rw [if_neg (by simpa using h1)]
      exact .inl ⟨trivial, rfl⟩) (fun k hI => by
    rw [world_texts_l2, if_neg (by simp)]
    exact .inl rfl) n (by omega)
  rw [world_texts]
  rcases a with a | a
  · rw [show world_texts_l2 n n ((l, 0, ()), ()) = _ from a]
    exact ⟨_, rfl⟩
  · rw [show world_texts_l2 n n ((l, 0, ()), ()) = _ from a]
    exact ⟨_, rfl⟩
abbrev DeclT := ty3.T
theorem decls_at {n : Nat} (hn : 140737488400000 < n) (hN : n < 4000000000000000000) (l : List DeclT) (hl : l.length ≤ 140737488351232) : ∃ b : Bool, world_decls n ((l, ()), ()) = some ((b, ()), ()) := by
  obtain ⟨n, rfl⟩ : ∃ q, n = q + 1 := ⟨n - 1, by omega⟩
  have inner : ∀ i : Nat, i < l.length → ((((rdT ty3 l (i : Int)).2).2).2).length ≤ 8 → world_decls_l7 n n ((l, (i : Int), 0, ()), ()) = some (.inl ((l, (i : Int), ()), ())) ∨ world_decls_l7 n n ((l, (i : Int), 0, ()), ()) = some (.inr (.inl ((false, ()), ()))) := by
    intro i hi h8
    generalize hx : (((rdT ty3 l (i : Int)).2).2).2 = x at h8
    have a := for_inv (F := world_decls_l7 n) (len := x.length) (st := fun j => ((l, (i : Int), (j : Int), ()), ())) (fun j => True) (fun r => r = some (.inl ((l, (i : Int), ()), ())) ∨ r = some (.inr (.inl ((false, ()), ())))) trivial (fun j k hj hI => by
      rw [world_decls_l7, if_pos (show 0 ≤ (i : Int) ∧ (i : Int) < (l.length : Int) from ⟨by omega, by omega⟩), hx, if_pos (decide_eq_true (show (j : Int) < (x.length : Int) by omega)), if_pos (show 0 ≤ (i : Int) ∧ (i : Int) < (l.length : Int) from ⟨by omega, by omega⟩), if_pos (show 0 ≤ (j : Int) ∧ (j : Int) < (x.length : Int) from ⟨by omega, by omega⟩)]
      simp only []
      rw [w64_up j (by omega)]
      split
      · exact .inr (.inr rfl)
      · exact .inl ⟨trivial, rfl⟩) (fun k hI => by
      rw [world_decls_l7, if_pos (show 0 ≤ (i : Int) ∧ (i : Int) < (l.length : Int) from ⟨by omega, by omega⟩), hx, if_neg (by simp)]
      exact .inl rfl) n (by omega)
    exact a
  have a := for_inv (F := world_decls_l2 n) (len := l.length) (st := fun i => ((l, (i : Int), ()), ())) (fun i => True) (fun r => r = some (.inl ((l, ()), ())) ∨ r = some (.inr (.inl ((false, ()), ())))) trivial (fun i k hi hI => by
    rw [world_decls_l2, if_pos (decide_eq_true (show (i : Int) < (l.length : Int) by omega)), if_pos (show 0 ≤ (i : Int) ∧ (i : Int) < (l.length : Int) from ⟨by omega, by omega⟩)]
    split
    · exact .inr (.inr rfl)
    · rw [if_pos (show 0 ≤ (i : Int) ∧ (i : Int) < (l.length : Int) from ⟨by omega, by omega⟩)]
      by_cases h8 : (((((rdT ty3 l (i : Int)).2).2).2).length : Int) > 8
      · rw [if_pos (decide_eq_true h8)]
        exact .inr (.inr rfl)
      · rw [if_neg (by simpa using h8)]
        rcases inner i hi (by omega) with h | h
        · rw [h]
          simp only []
          rw [w64_up i (by omega)]
          exact .inl ⟨trivial, rfl⟩
        · rw [h]
          exact .inr (.inr rfl)) (fun k hI => by
    rw [world_decls_l2, if_neg (by simp)]
    exact .inl rfl) n (by omega)
  rw [world_decls]
  rcases a with a | a
  · rw [show world_decls_l2 n n ((l, 0, ()), ()) = _ from a]
    exact ⟨_, rfl⟩
  · rw [show world_decls_l2 n n ((l, 0, ()), ()) = _ from a]
    exact ⟨_, rfl⟩
abbrev EqT := Int × SL × ExT × ByteArray × List Rx × ByteArray
theorem c12_at {n : Nat} (v i : Int) (A : ByteArray × List DeclT × List DeclT × List DeclT × List EqT × Unit) (pos : Int) (left : SL) (o p q : Int) (s : ByteArray) (L : List ExT) (nd : ByteArray) (ar : List ExT) (ev : ByteArray) :
    world_Node_c12 n (((), v, i, (), ()), (A, (pos, left, o, p, q, s, L, nd, ar, ev, ()), ())) = some (.inl (((), v, i, (), ()), (A, (pos, left, o, p, q, s, L, nd, ar, ev, ()), ()))) ∨ world_Node_c12 n (((), v, i, (), ()), (A, (pos, left, o, p, q, s, L, nd, ar, ev, ()), ())) = some (.inr (.inl ((false, ()), ()))) := by
  obtain ⟨a1, a2, a3, a4, a5, a6⟩ := A
  simp only [world_Node_c12]
  repeat' split
  all_goals first | exact .inl rfl | exact .inr rfl
theorem l14_at {n : Nat} (hn : 140737488400000 < n) (hN : n < 4000000000000000000) (A : ByteArray × List DeclT × List DeclT × List DeclT × List EqT × Unit) (i : Int) (pos : Int) (left : SL) (o p q : Int) (s : ByteArray) (L : List ExT) (nd : ByteArray) (ar : List Rx) (ev : ByteArray) (hl : ar.length ≤ 20) : ∀ d j k (v : Int), j + d = ar.length → d < k →
    (∃ v' : Int, world_Node_l14 n k (((), v, i, (), (j : Int), ()), (A, (pos, left, o, p, q, s, L, nd, ar.map Rx.un, ev, ()), ())) = some (.inl (((), v', i, ()), (A, ())))) ∨ world_Node_l14 n k (((), v, i, (), (j : Int), ()), (A, (pos, left, o, p, q, s, L, nd, ar.map Rx.un, ev, ()), ())) = some (.inr (.inl ((false, ()), ()))) := by
  obtain ⟨a1, a2, a3, a4, a5, a6⟩ := A
  have hlm : (ar.map Rx.un).length = ar.length := List.length_map ..
  intro d
  induction d with
  | zero =>
    intro j k v hj hk
    obtain ⟨k, rfl⟩ : ∃ q, k = q + 1 := ⟨k - 1, by omega⟩
    refine .inl ⟨v, ?_⟩
    rw [world_Node_l14, if_neg (by simp; omega)]
  | succ d ih =>
    intro j k v hj hk
    obtain ⟨k, rfl⟩ : ∃ q, k = q + 1 := ⟨k - 1, by omega⟩
    have hr : rdT (tyEx 41) (ar.map Rx.un) (j : Int) = (ar.getD j default).un := un_get ar j (by omega) (Ty.dflt (tyEx 41))
    have hb : 0 ≤ (j : Int) ∧ (j : Int) < ((ar.map Rx.un).length : Int) := ⟨by omega, by omega⟩
    rw [world_Node_l14, if_pos (decide_eq_true (show (j : Int) < ((ar.map Rx.un).length : Int) by omega)), if_pos hb]
    have key : ∀ b : Bool, world_few n (fewIn (ar.getD j default) 60) = some ((b, ()), ()) → world_few n ((((rdT (tyEx 41) (ar.map Rx.un) (j : Int)).1, ((rdT (tyEx 41) (ar.map Rx.un) (j : Int)).2).1, (((rdT (tyEx 41) (ar.map Rx.un) (j : Int)).2).2).1, ((((rdT (tyEx 41) (ar.map Rx.un) (j : Int)).2).2).2).1, (((((rdT (tyEx 41) (ar.map Rx.un) (j : Int)).2).2).2).2).map Rx.un, ()), 60, ()), ()) = some ((b, ()), ()) := fun b h => by rw [hr]; exact h
    rcases few_at 60 n (ar.getD j default) (by omega) (by omega) with ⟨h3, h4⟩ | h3
    · obtain ⟨u, hu⟩ := many_at 60 n (ar.getD j default) (by omega) h4
      have hu' : world_many n ((((rdT (tyEx 41) (ar.map Rx.un) (j : Int)).1, ((rdT (tyEx 41) (ar.map Rx.un) (j : Int)).2).1, (((rdT (tyEx 41) (ar.map Rx.un) (j : Int)).2).2).1, ((((rdT (tyEx 41) (ar.map Rx.un) (j : Int)).2).2).2).1, (((((rdT (tyEx 41) (ar.map Rx.un) (j : Int)).2).2).2).2).map Rx.un, ()), ()), ()) = some ((u, ()), ()) := by rw [hr]; exact hu
      rw [key true h3]
      simp only []
      rw [if_neg (by decide), if_pos hb, hu']
      simp only []
      rw [w64_up j (by omega)]
      exact ih (j + 1) k (IntKind.i64.wrap (v + u)) (by omega) (by omega)
    · rw [key false h3]
      exact .inr rfl
theorem eqs_at {n : Nat} (hn : 140737488400000 < n) (hN : n < 4000000000000000000) (nm : ByteArray) (i1 i2 i3 : List DeclT) (es : List EqT) (he : es.length ≤ 30) (hleft : ∀ q ∈ es, q.2.1.length ≤ 140737488351232) : ∀ d i k (v : Int), i + d = es.length → d < k →
    (∃ v' : Int, world_Node_l5 n k (((), v, (i : Int), ()), ((nm, i1, i2, i3, es, ()), ())) = some (.inl ((v', ()), ()))) ∨ world_Node_l5 n k (((), v, (i : Int), ()), ((nm, i1, i2, i3, es, ()), ())) = some (.inr (.inl ((false, ()), ()))) := by
  intro d
  induction d with
  | zero =>
    intro i k v hi hk
    obtain ⟨k, rfl⟩ : ∃ q, k = q + 1 := ⟨k - 1, by omega⟩
    exact .inl ⟨v, by rw [world_Node_l5, if_neg (by simp; omega)]⟩
  | succ d ih =>
    intro i k v hi hk
    obtain ⟨k, rfl⟩ : ∃ q, k = q + 1 := ⟨k - 1, by omega⟩
    have hm := hleft _ (getD_mem es i (by omega) (Ty.dflt ty11))
    have hr : rdT ty11 es (i : Int) = es.getD i (Ty.dflt ty11) := rfl
    rw [world_Node_l5, if_pos (decide_eq_true (show (i : Int) < (es.length : Int) by omega)), if_pos (show 0 ≤ (i : Int) ∧ (i : Int) < (es.length : Int) from ⟨by omega, by omega⟩), hr]
    generalize (es.getD i (Ty.dflt ty11) : EqT) = q at hm
    obtain ⟨pos, left, ⟨o, p, q, s, L⟩, nd, ar, ev⟩ := q
    simp only [] at hm ⊢
    obtain ⟨b, hb⟩ := texts_at hn hN left hm
    rw [hb]
    simp only []
    cases b with
    | false => exact .inr rfl
    | true =>
      rw [if_neg (by decide)]
      split
      · exact .inr rfl
      split
      · exact .inr rfl
      by_cases h20 : ((ar.map Rx.un).length : Int) > 20
      · rw [if_pos (decide_eq_true h20)]
        exact .inr rfl
      rw [if_neg (by simpa using h20)]
      have hlm : (ar.map Rx.un).length = ar.length := List.length_map ..
      have key : ∀ b : Bool, world_few n (fewIn (.mk o p q s L) 60) = some ((b, ()), ()) → world_few n (((o, p, q, s, L.map Rx.un, ()), 60, ()), ()) = some ((b, ()), ()) := fun b h => h
      rcases few_at 60 n (.mk o p q s L) (by omega) (by omega) with ⟨h3, h4⟩ | h3
      · obtain ⟨u, hu⟩ := many_at 60 n (.mk o p q s L) (by omega) h4
        have hu : world_many n (((o, p, q, s, L.map Rx.un, ()), ()), ()) = some ((u, ()), ()) := hu
        rw [key true h3]
        simp only []
        rw [if_neg (by decide)]
        rcases c12_at (n := n) v (i : Int) (nm, i1, i2, i3, es, ()) pos left o p q s (L.map Rx.un) nd (ar.map Rx.un) ev with h5 | h5
        · rw [h5]
          simp only []
          rw [hu]
          simp only []
          rcases l14_at hn hN (nm, i1, i2, i3, es, ()) (i : Int) pos left o p q s (L.map Rx.un) nd ar ev (by omega) ar.length 0 n (IntKind.i64.wrap (v + u)) (by omega) (by omega) with ⟨v', h6⟩ | h6
          · rw [show world_Node_l14 n n (((), IntKind.i64.wrap (v + u), (i : Int), (), 0, ()), ((nm, i1, i2, i3, es, ()), (pos, left, o, p, q, s, L.map Rx.un, nd, ar.map Rx.un, ev, ()), ())) = _ from h6]
            simp only []
            rw [w64_up i (by omega)]
            exact ih (i + 1) k v' (by omega) (by omega)
          · rw [show world_Node_l14 n n (((), IntKind.i64.wrap (v + u), (i : Int), (), 0, ()), ((nm, i1, i2, i3, es, ()), (pos, left, o, p, q, s, L.map Rx.un, nd, ar.map Rx.un, ev, ()), ())) = _ from h6]
            exact .inr rfl
        · rw [h5]
          exact .inr rfl
      · rw [key false h3]
        exact .inr rfl
abbrev NodeT := ByteArray × List DeclT × List DeclT × List DeclT × List EqT
/-- A node's rows are no longer than memory. -/
def NodeB (x : NodeT) : Prop := x.2.1.length ≤ 140737488351232 ∧ x.2.2.1.length ≤ 140737488351232 ∧ x.2.2.2.1.length ≤ 140737488351232 ∧ ∀ q ∈ x.2.2.2.2, q.2.1.length ≤ 140737488351232
/-- What a light node is. -/
def Light (x : NodeT) : Prop := x.1.size ≤ 60 ∧ x.2.2.2.2.length ≤ 30
theorem node_at {n : Nat} (hn : 140737488400010 < n) (hN : n < 4000000000000000000) (x : NodeT) (h : NodeB x) : (world_Node n (((x.1, x.2.1, x.2.2.1, x.2.2.2.1, x.2.2.2.2, ()), ()), ()) = some ((true, ()), ()) ∧ Light x) ∨ world_Node n (((x.1, x.2.1, x.2.2.1, x.2.2.2.1, x.2.2.2.2, ()), ()), ()) = some ((false, ()), ()) := by
  obtain ⟨n, rfl⟩ : ∃ q, n = q + 1 := ⟨n - 1, by omega⟩
  obtain ⟨nm, i1, i2, i3, es⟩ := x
  obtain ⟨h1, h2, h3, h4⟩ := h
  simp only [] at h1 h2 h3 h4 ⊢
  rw [world_Node]
  by_cases hs : (nm.size : Int) > 60
  · rw [if_pos (decide_eq_true hs)]
    exact .inr rfl
  rw [if_neg (by simpa using hs)]
  obtain ⟨b1, k1⟩ := decls_at (n := n) (by omega) (by omega) i1 h1
  obtain ⟨b2, k2⟩ := decls_at (n := n) (by omega) (by omega) i2 h2
  obtain ⟨b3, k3⟩ := decls_at (n := n) (by omega) (by omega) i3 h3
  rw [k1]
  simp only []
  cases b1 with
  | false => exact .inr rfl
  | true =>
  rw [if_neg (by decide), k2]
  simp only []
  cases b2 with
  | false => exact .inr rfl
  | true =>
  rw [if_neg (by decide), k3]
  simp only []
  cases b3 with
  | false => exact .inr rfl
  | true =>
  rw [if_neg (by decide)]
  by_cases h30 : (es.length : Int) > 30
  · rw [if_pos (decide_eq_true h30)]
    exact .inr rfl
  rw [if_neg (by simpa using h30)]
  rcases eqs_at (n := n) (by omega) (by omega) nm i1 i2 i3 es (by omega) h4 es.length 0 n 0 (by omega) (by omega) with ⟨v, h5⟩ | h5
  · rw [show world_Node_l5 n n (((), 0, 0, ()), ((nm, i1, i2, i3, es, ()), ())) = _ from h5]
    simp only []
    by_cases hv : v ≤ 400
    · rw [decide_eq_true hv]
      exact .inl ⟨rfl, by show nm.size ≤ 60; omega, by show es.length ≤ 30; omega⟩
    · rw [decide_eq_false hv]
      exact .inr rfl
  · rw [show world_Node_l5 n n (((), 0, 0, ()), ((nm, i1, i2, i3, es, ()), ())) = _ from h5]
    exact .inr rfl
theorem nodes_at {n : Nat} (hn : 140737488400020 < n) (hN : n < 4000000000000000000) (l : List NodeT) (most : Nat) (hm : most ≤ 100) (h : ∀ x ∈ l, NodeB x) : (world_Nodes n ((l, (most : Int), ()), ()) = some ((true, ()), ()) ∧ l.length ≤ most ∧ ∀ x ∈ l, Light x) ∨ world_Nodes n ((l, (most : Int), ()), ()) = some ((false, ()), ()) := by
  obtain ⟨n, rfl⟩ : ∃ q, n = q + 1 := ⟨n - 1, by omega⟩
  rw [world_Nodes]
  by_cases hl : (l.length : Int) > (most : Int)
  · rw [if_pos (decide_eq_true hl)]
    exact .inr rfl
  rw [if_neg (by simpa using hl)]
  have a := for_inv (F := world_Nodes_l4 n) (len := l.length) (st := fun i => ((l, (i : Int), ()), ())) (fun i => ∀ x ∈ l.take i, Light x) (fun r => (r = some (.inl ((), ())) ∧ ∀ x ∈ l, Light x) ∨ r = some (.inr (.inl ((false, ()), ())))) (by simp) (fun i k hi hI => by
    have hx := h _ (getD_mem l i hi (Ty.dflt ty0))
    have hr : rdT ty0 l (i : Int) = l.getD i (Ty.dflt ty0) := rfl
    rw [world_Nodes_l4, if_pos (decide_eq_true (show (i : Int) < (l.length : Int) by omega)), if_pos (show 0 ≤ (i : Int) ∧ (i : Int) < (l.length : Int) from ⟨by omega, by omega⟩), hr]
    rcases node_at (n := n) (by omega) (by omega) (l.getD i (Ty.dflt ty0)) hx with ⟨h3, h4⟩ | h3
    · rw [h3]
      simp only []
      rw [if_neg (by decide), w64_up i (by omega)]
      refine .inl ⟨fun x hx => ?_, rfl⟩
      rw [take_succ l i hi (Ty.dflt ty0), List.mem_append] at hx
      rcases hx with hx | hx
      · exact hI x hx
      · rw [List.mem_singleton] at hx
        rw [hx]
        exact h4
    · rw [h3]
      exact .inr (.inr rfl)) (fun k hI => by
    rw [List.take_length] at hI
    refine .inl ⟨?_, hI⟩
    rw [world_Nodes_l4, if_neg (by simp)]) n (by omega)
  rcases a with ⟨a, ha⟩ | a
  · rw [show world_Nodes_l4 n n ((l, 0, ()), ()) = _ from a]
    exact .inl ⟨rfl, by omega, ha⟩
  · rw [show world_Nodes_l4 n n ((l, 0, ()), ()) = _ from a]
    exact .inr rfl
end Go.Proofs.YtnajjhjbkanigaaDoor.Pure
