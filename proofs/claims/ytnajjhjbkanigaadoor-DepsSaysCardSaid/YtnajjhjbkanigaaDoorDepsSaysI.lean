/- DepsSays, in plain words: all that a root uses, in order, both ways. By this session. -/
import Derived.Test.YtnajjhjbkanigaaDoorDepsSaysH
namespace Go.Proofs.YtnajjhjbkanigaaDoor.Pure
open Go Go.Proofs.YtnajjhjbkanigaaDoor.Cm
open Classical
set_option linter.unusedVariables false
set_option linter.unusedSimpArgs false
set_option maxRecDepth 100000
noncomputable def readyG (g : ByteArray → Option SL) (out : SL) (s : ByteArray) : Bool := decide (s ∉ out) && decide (∀ u ∈ (g s).getD [], u ∈ out)
theorem ready_eq {g : ByteArray → Option SL} {m : GM} (h : Al g m) (out : SL) (s : ByteArray) : ready m out s = readyG g out s := by
  unfold ready readyG
  rw [h.get s]
/-- The first that is ready. -/
def NextOk (g : ByteArray → Option SL) (names out : SL) : Option Nat → Prop
  | some j => j < names.length ∧ readyG g out (names.getD j (Ty.dflt .str)) = true ∧ ∀ i, i < j → readyG g out (names.getD i (Ty.dflt .str)) = false
  | none => ∀ i, i < names.length → readyG g out (names.getD i (Ty.dflt .str)) = false
theorem NextOk_eq {g : ByteArray → Option SL} {names out : SL} : ∀ {a b : Option Nat}, NextOk g names out a → NextOk g names out b → a = b
  | none, none, _, _ => rfl
  | none, some b, h, ⟨h1, h2, _⟩ => by rw [h b h1] at h2; cases h2
  | some a, none, ⟨h1, h2, _⟩, h => by rw [h a h1] at h2; cases h2
  | some a, some b, ⟨a1, a2, a3⟩, ⟨b1, b2, b3⟩ => by
    rcases Nat.lt_trichotomy a b with h | h | h
    · rw [b3 a h] at a2; cases a2
    · rw [h]
    · rw [a3 b h] at b2; cases b2
def nx : Option Nat → Int
  | some j => (j : Int)
  | none => -1
theorem indexF_at {n : Nat} {g : ByteArray → Option SL} {Ds : SL} (G : Gb g Ds) {m : GM} (hm : Al g m) {names out : SL} (hl : names.length ≤ 16) (ho : out.length ≤ 16) (hn : 100 < n) (hN : n < 4000000000000000000) :
    ∃ r : Option Nat, NextOk g names out r ∧ slices_IndexFunc_string_string_3 n ((names, (), ()), (((), ()), ((), ()), out, ((), ()), m, ())) = some ((nx r, ()), (((), ()), ((), ()), out, ((), ()), m, ())) := by
  obtain ⟨n, rfl⟩ : ∃ q, n = q + 1 := ⟨n - 1, by omega⟩
  have a := for_inv (F := slices_IndexFunc_string_string_3_l2 n) (len := names.length) (st := fun i => ((names, (), (names.length : Int), (i : Int), ()), (((), ()), ((), ()), out, ((), ()), m, ()))) (fun i => ∀ j, j < i → readyG g out (names.getD j (Ty.dflt .str)) = false)
    (fun r => (∃ j : Nat, NextOk g names out (some j) ∧ r = some (.inr (.inl (((j : Int), ()), (((), ()), ((), ()), out, ((), ()), m, ()))))) ∨ (NextOk g names out none ∧ r = some (.inl ((), (((), ()), ((), ()), out, ((), ()), m, ()))))) (fun j hj => by omega) (fun i k hi hI => by
      have hf := G.get (List.getD names i (Ty.dflt .str))
      rw [slices_IndexFunc_string_string_3_l2, if_pos (decide_eq_true (show (i : Int) < (names.length : Int) by omega)), if_pos (show (0 : Int) ≤ (i : Int) ∧ (i : Int) < (names.length : Int) by omega), rdT_nat, all1_at (n := n) (m := m) (out := out) (List.getD names i (Ty.dflt .str)) (by rw [hm.get]; omega) (by omega), ready_eq hm, w64_up i (by omega)]
      cases hr : readyG g out (List.getD names i (Ty.dflt .str)) with
      | true => exact .inr (.inl ⟨i, ⟨hi, hr, hI⟩, rfl⟩)
      | false =>
        refine .inl ⟨fun j hj => ?_, rfl⟩
        by_cases e : j = i
        · rw [e]; exact hr
        · exact hI j (by omega)) (fun k hI => by
    refine .inr ⟨hI, ?_⟩
    rw [slices_IndexFunc_string_string_3_l2, if_neg (by simp)]) n (by omega)
  rw [slices_IndexFunc_string_string_3]
  rcases a with ⟨j, h1, h2⟩ | ⟨h1, h2⟩
  · rw [show slices_IndexFunc_string_string_3_l2 n n ((names, (), (names.length : Int), 0, ()), (((), ()), ((), ()), out, ((), ()), m, ())) = _ from h2]
    exact ⟨some j, h1, rfl⟩
  · rw [show slices_IndexFunc_string_string_3_l2 n n ((names, (), (names.length : Int), 0, ()), (((), ()), ((), ()), out, ((), ()), m, ())) = _ from h2]
    exact ⟨none, h1, rfl⟩
/-! ### the document's -/
noncomputable def allIn (out v : SL) : Bool := decide (∀ u ∈ v, u ∈ out)
theorem allIn_iff {out v : SL} : allIn out v = true ↔ ∀ u ∈ v, u ∈ out := by unfold allIn; exact decide_eq_true_iff
theorem fits_at {n : Nat} (l : List NodeT) (names out : SL) (p i : Int) (v : SL) (hv : v.length ≤ 30) (ho : out.length ≤ 16) (hn : 100 < n) (hN : n < 4000000000000000000) : ∀ d j k (b : Bool), j + d = v.length → d < k →
    ref16_Sorted_l11 n k (((), l, (), p, i, v, b, (j : Int), ()), (names, out, ())) = some (.inl (((), l, (), p, i, b && allIn out (v.drop j), ()), (names, out, ()))) := by
  intro d
  induction d with
  | zero =>
    intro j k b hj hk
    obtain ⟨k, rfl⟩ : ∃ q, k = q + 1 := ⟨k - 1, by omega⟩
    rw [ref16_Sorted_l11, if_neg (by simp; omega), List.drop_eq_nil_of_le (by omega), show allIn out [] = true from allIn_iff.2 (fun u hu => by cases hu), Bool.and_true]
  | succ d ih =>
    intro j k b hj hk
    obtain ⟨k, rfl⟩ : ∃ q, k = q + 1 := ⟨k - 1, by omega⟩
    have hjv : j < v.length := by omega
    have hdr : v.drop j = v.getD j (Ty.dflt .str) :: v.drop (j + 1) := by
      rw [List.drop_eq_getElem_cons hjv, List.getD_eq_getElem?_getD, List.getElem?_eq_getElem hjv]
      rfl
    have hb : 0 ≤ (j : Int) ∧ (j : Int) < (v.length : Int) := ⟨by omega, by omega⟩
    rw [ref16_Sorted_l11, if_pos (decide_eq_true hb.2), w64_up j (by omega)]
    cases b with
    | false =>
      rw [if_neg (by decide)]
      show ref16_Sorted_l11 n k (((), l, (), p, i, v, false, ((j + 1 : Nat) : Int), ()), (names, out, ())) = _
      rw [ih (j + 1) k false (by omega) (by omega), Bool.false_and, Bool.false_and]
    | true =>
      obtain ⟨a, a1, a2⟩ := among2_is (n := n) (l := out) (v.getD j (Ty.dflt .str)) (by omega) hN
      rw [if_pos rfl, if_pos hb, show ref_Among_2 n (((), rdT (.str : Ty) v (j : Int), ()), (out, ())) = _ from a2]
      simp only []
      rw [ih (j + 1) k (decide (a ≥ 0)) (by omega) (by omega), Bool.true_and]
      have e : (decide (a ≥ 0) && allIn out (v.drop (j + 1))) = allIn out (v.drop j) := by
        rw [Bool.eq_iff_iff, Bool.and_eq_true, decide_eq_true_eq, allIn_iff, allIn_iff, a1, hdr, List.forall_mem_cons]
      rw [e]
theorem next_ref {n : Nat} {l : List NodeT} (h : Ok l) {names out : SL} (hs : ∀ s ∈ names, s ∈ l.map (·.1)) (hl : names.length ≤ 16) (ho : out.length ≤ 16) (hn : 200 < n) (hN : n < 4000000000000000000) :
    ∃ r : Option Nat, NextOk (gOf l) names out r ∧ ref16_Sorted_l5 n n (((), l, (), (-1), 0, ()), (names, out, ())) = some (.inl (((), l, (), nx r, ()), (names, out, ()))) := by
  have stop : ∀ (i k : Nat) (p : Nat), i ≤ names.length → ref16_Sorted_l5 n (k + 1) (((), l, (), (p : Int), (i : Int), ()), (names, out, ())) = some (.inl (((), l, (), (p : Int), ()), (names, out, ()))) := fun i k p hi => by
    rw [ref16_Sorted_l5]
    by_cases e : (i : Int) < (names.length : Int)
    · rw [if_pos (decide_eq_true e), if_neg (by simp)]
    · rw [if_neg (by simpa using e)]
  have main : ∀ d i k, i + d = names.length → d + 1 < k → (∀ j, j < i → readyG (gOf l) out (names.getD j (Ty.dflt .str)) = false) → ∃ r : Option Nat, NextOk (gOf l) names out r ∧ ref16_Sorted_l5 n k (((), l, (), (-1), (i : Int), ()), (names, out, ())) = some (.inl (((), l, (), nx r, ()), (names, out, ()))) := by
    intro d
    induction d with
    | zero =>
      intro i k hi hk hI
      obtain ⟨k, rfl⟩ : ∃ q, k = q + 1 := ⟨k - 1, by omega⟩
      refine ⟨none, fun j hj => hI j (by omega), ?_⟩
      rw [ref16_Sorted_l5, if_neg (by simp; omega)]
      rfl
    | succ d ih =>
      intro i k hi hk hI
      obtain ⟨k, rfl⟩ : ∃ q, k = q + 2 := ⟨k - 2, by omega⟩
      have hb : 0 ≤ (i : Int) ∧ (i : Int) < (names.length : Int) := ⟨by omega, by omega⟩
      have hmem : names.getD i (Ty.dflt .str) ∈ names := getD_mem names i (by omega) _
      obtain ⟨a, a1, a2⟩ := among2_is (n := n) (l := out) (names.getD i (Ty.dflt .str)) (by omega) hN
      have next : readyG (gOf l) out (names.getD i (Ty.dflt .str)) = false → ∀ j, j < i + 1 → readyG (gOf l) out (names.getD j (Ty.dflt .str)) = false := fun hr j hj => by
        by_cases e : j = i
        · rw [e]; exact hr
        · exact hI j (by omega)
      rw [show k + 2 = (k + 1) + 1 from rfl, ref16_Sorted_l5, if_pos (decide_eq_true hb.2), if_pos (by decide), if_pos hb, show ref_Among_2 n (((), rdT (.str : Ty) names (i : Int), ()), (out, ())) = _ from a2]
      simp only []
      by_cases hm : names.getD i (Ty.dflt .str) ∈ out
      · rw [if_pos (decide_eq_true (a1.2 hm)), w64_up i (by omega)]
        refine ih (i + 1) (k + 1) (by omega) (by omega) (next ?_)
        unfold readyG
        rw [decide_eq_false (fun q => q hm), Bool.false_and]
      · rw [if_neg (by simpa using fun q => hm (a1.1 q)), if_pos hb]
        rcases look (n := n) h (by omega) (names.getD i (Ty.dflt .str)) with ⟨g1, g2⟩ | ⟨j, v, j1, g1, v1, g2, g3⟩
        · have := (h.g.dom _).2 (hs _ hmem)
          rw [g1] at this
          cases this
        · rw [show ref16_find n ((l, rdT (.str : Ty) names (i : Int), ()), ()) = _ from g2]
          simp only []
          rw [if_pos (show 0 ≤ (j : Int) ∧ (j : Int) < (l.length : Int) from ⟨by omega, by omega⟩), show ref10_Calls n _ = _ from g3]
          simp only []
          rw [show ref16_Sorted_l11 n n (((), l, (), (-1), (i : Int), v, true, 0, ()), (names, out, ())) = _ from fits_at (n := n) l names out (-1) (i : Int) v v1 ho (by omega) hN v.length 0 n true (by omega) (by omega)]
          simp only []
          have hr : readyG (gOf l) out (names.getD i (Ty.dflt .str)) = (true && allIn out (v.drop 0)) := by
            unfold readyG
            rw [Bool.eq_iff_iff, Bool.and_eq_true, Bool.and_eq_true, decide_eq_true_eq, decide_eq_true_eq, allIn_iff, g1, List.drop_zero]
            exact ⟨fun q => ⟨rfl, q.2⟩, fun q => ⟨hm, q.2⟩⟩
          rw [← hr, w64_up i (by omega)]
          cases hq : readyG (gOf l) out (names.getD i (Ty.dflt .str)) with
          | true =>
            rw [if_pos rfl]
            exact ⟨some i, ⟨by omega, hq, hI⟩, stop (i + 1) k i (by omega)⟩
          | false =>
            rw [if_neg (by decide)]
            exact ih (i + 1) (k + 1) (by omega) (by omega) (next hq)
  exact main names.length 0 n (by omega) (by omega) (fun j hj => by omega)
/-- Each behind those that it uses. -/
structure Ord (g : ByteArray → Option SL) (out : SL) : Prop where
  nd : out.Nodup
  us : ∀ i, i < out.length → ∀ u ∈ (g (out.getD i (Ty.dflt .str))).getD [], u ∈ out.take i
theorem Ord.add {g : ByteArray → Option SL} {out : SL} (h : Ord g out) {s : ByteArray} (hr : readyG g out s = true) : Ord g (out ++ [s]) := by
  unfold readyG at hr
  rw [Bool.and_eq_true, decide_eq_true_eq, decide_eq_true_eq] at hr
  refine ⟨?_, fun i hi u hu => ?_⟩
  · rw [List.nodup_append]
    exact ⟨h.nd, by simp, fun a ha b hb e => by rw [List.mem_singleton] at hb; subst hb; subst e; exact hr.1 ha⟩
  · rw [List.length_append, List.length_singleton] at hi
    by_cases e : i < out.length
    · rw [List.getD_eq_getElem?_getD, List.getElem?_append_left e, ← List.getD_eq_getElem?_getD] at hu
      rw [List.take_append_of_le_length (by omega)]
      exact h.us i e u hu
    · have e : i = out.length := by omega
      subst e
      rw [List.getD_eq_getElem?_getD, List.getElem?_append_right (Nat.le_refl _), Nat.sub_self] at hu
      rw [List.take_append_of_le_length (Nat.le_refl _), List.take_length]
      exact hr.2 u hu
def allR (m : GM) : Option SL → Option (OutT deps_Graph_All_l5_o)
  | some l => some (.inl (((), ()), (((), ()), m, ((), ()), l, ())))
  | none => some (.inr (.inl (((), ErrV.sent 113, ()), (((), ()), m, ()))))
def sortR (names : SL) : Option SL → Option (OutT ref16_Sorted_l2_o)
  | some l => some (.inl (((), ()), (names, l, ())))
  | none => some (.inr (.inl (((), 113, ()), (names, ()))))
theorem both_loop {l : List NodeT} (h : Ok l) {names : SL} (hs : ∀ s ∈ names, s ∈ l.map (·.1)) (hl : names.length ≤ 16) : ∀ d (out : SL), out.length + d = names.length → Ord (gOf l) out → (∀ x ∈ out, x ∈ names) →
    ∃ r : Option SL, (∀ al, r = some al → Ord (gOf l) al ∧ al.length = names.length ∧ ∀ x ∈ al, x ∈ names) ∧ ∀ n k, 200 < n → n < 4000000000000000000 → d < k → deps_Graph_All_l5 n k (((), names, (), ()), (((), ()), mapOf l, ((), ()), ((), ()), out, ())) = allR (mapOf l) r ∧ ref16_Sorted_l2 n k (((), l, (), ()), (names, out, ())) = sortR names r := by
  intro d
  induction d with
  | zero =>
    intro out hd hO hS
    refine ⟨some out, (fun al e => by cases e; exact ⟨hO, by omega, hS⟩), fun n k hn hN hk => ?_⟩
    obtain ⟨k, rfl⟩ : ∃ q, k = q + 1 := ⟨k - 1, by omega⟩
    constructor
    · rw [deps_Graph_All_l5, if_neg (by simp; omega)]; rfl
    · rw [ref16_Sorted_l2, if_neg (by simp; omega)]; rfl
  | succ d ih =>
    intro out hd hO hS
    obtain ⟨r, q1, _⟩ := next_ref (n := 1000) h hs hl (out := out) (by omega) (by omega) (by omega)
    have hlt : decide ((out.length : Int) < (names.length : Int)) = true := decide_eq_true (by omega)
    have step : ∀ n, 200 < n → n < 4000000000000000000 → slices_IndexFunc_string_string_3 n ((names, (), ()), (((), ()), ((), ()), out, ((), ()), mapOf l, ())) = some ((nx r, ()), (((), ()), ((), ()), out, ((), ()), mapOf l, ())) ∧ ref16_Sorted_l5 n n (((), l, (), (-1), 0, ()), (names, out, ())) = some (.inl (((), l, (), nx r, ()), (names, out, ()))) := fun n hn hN => by
      obtain ⟨r1, a1, a2⟩ := indexF_at (n := n) h.g h.al hl (out := out) (by omega) (by omega) (by omega)
      obtain ⟨r2, b1, b2⟩ := next_ref (n := n) h hs hl (out := out) (by omega) (by omega) (by omega)
      rw [NextOk_eq q1 a1]
      exact ⟨a2, by rw [← NextOk_eq q1 a1, NextOk_eq q1 b1]; exact b2⟩
    cases r with
    | none =>
      refine ⟨none, (fun al e => by cases e), fun n k hn hN hk => ?_⟩
      obtain ⟨k, rfl⟩ : ∃ q, k = q + 1 := ⟨k - 1, by omega⟩
      obtain ⟨r2, q2⟩ := step n hn hN
      rw [deps_Graph_All_l5, if_pos hlt, r2, ref16_Sorted_l2, if_pos hlt, q2]
      simp only []
      constructor
      · rw [if_pos (show decide (nx none < 0) = true by decide)]; rfl
      · rw [if_pos (show decide (nx none < 0) = true by decide)]; rfl
    | some j =>
      obtain ⟨j1, j2, j3⟩ := q1
      have hb : 0 ≤ nx (some j) ∧ nx (some j) < (names.length : Int) := ⟨show (0 : Int) ≤ (j : Int) by omega, show (j : Int) < (names.length : Int) by omega⟩
      have hmem : names.getD j (Ty.dflt .str) ∈ names := getD_mem names j j1 _
      obtain ⟨r3, a1, a2⟩ := ih (out ++ [names.getD j (Ty.dflt .str)]) (by simp; omega) (hO.add j2) (fun x hx => by
        rcases List.mem_append.1 hx with hx | hx
        · exact hS x hx
        · rw [List.mem_singleton] at hx; rw [hx]; exact hmem)
      refine ⟨r3, a1, fun n k hn hN hk => ?_⟩
      obtain ⟨k, rfl⟩ : ∃ q, k = q + 1 := ⟨k - 1, by omega⟩
      obtain ⟨r2, q2⟩ := step n hn hN
      rw [deps_Graph_All_l5, if_pos hlt, r2, ref16_Sorted_l2, if_pos hlt, q2]
      simp only []
      obtain ⟨a3, a4⟩ := a2 n k hn hN (by omega)
      constructor
      · rw [if_neg (by rw [decide_eq_false (show ¬ nx (some j) < 0 by omega)]; decide), if_pos hb, if_pos (by simp only [List.length_cons, List.length_nil]; omega)]
        exact a3
      · rw [if_neg (by rw [decide_eq_false (show ¬ nx (some j) < 0 by omega)]; decide), if_pos hb, if_pos (by simp only [List.length_cons, List.length_nil]; omega)]
        exact a4
theorem nodup_all {a b : SL} (h : a.Nodup) (hs : ∀ x ∈ a, x ∈ b) (hl : a.length = b.length) : ∀ x ∈ b, x ∈ a := fun x hx => by
  by_cases e : x ∈ a
  · exact e
  · have := nodup_len (l := x :: a) (m := b) (List.nodup_cons.2 ⟨e, h⟩) (fun y hy => by
      rcases List.mem_cons.1 hy with rfl | hy
      · exact hx
      · exact hs y hy)
    rw [List.length_cons] at this
    omega
def allA (m : GM) (e : ErrV) (al : SL) : Option (OutsT deps_Graph_All_outs) := some (((((), ()), (e, ()), ()), ()), (((), ()), m, al, ()))
def sortA (u : SL) (bad : Int) (al : SL) : Option (OutsT ref16_Sorted_outs) := some (((((), ()), (bad, ()), ()), ()), (u, al, ()))
def allB (m : GM) : Option SL → Option (OutsT deps_Graph_All_outs)
  | some al => allA m .nil al
  | none => allA m (ErrV.sent 113) []
def sortB (u : SL) : Option SL → Option (OutsT ref16_Sorted_outs)
  | some al => sortA u 0 al
  | none => sortA u 113 []
/-- A root's all, both ways. -/
theorem all_both {l : List NodeT} (h : Ok l) (root : ByteArray) :
    (∀ n, 5000 < n → n < 4000000000000000000 → deps_Graph_All n (((), root, ()), (((), ()), mapOf l, ())) = allA (mapOf l) (ErrV.sent 116) [] ∧ ref16_Used n ((root, l, ()), ()) = usedA none) ∨
    (∃ u : SL, ∀ n, 5000 < n → n < 4000000000000000000 → deps_Graph_All n (((), root, ()), (((), ()), mapOf l, ())) = allA (mapOf l) (ErrV.sent 113) [] ∧ ref16_Used n ((root, l, ()), ()) = usedA (some u) ∧ ref16_Sorted n (((), l, ()), (u, ())) = sortA u 113 []) ∨
    (∃ u al : SL, (∀ n, 5000 < n → n < 4000000000000000000 → deps_Graph_All n (((), root, ()), (((), ()), mapOf l, ())) = allA (mapOf l) .nil al ∧ ref16_Used n ((root, l, ()), ()) = usedA (some u) ∧ ref16_Sorted n (((), l, ()), (u, ())) = sortA u 0 al) ∧ Ord (gOf l) al ∧ al.length ≤ 16 ∧ root ∈ al ∧ ∀ s ∈ al, s ∈ l.map (·.1)) := by
  obtain ⟨r, r1, _⟩ := reach_at (n := 10000) (by omega) h.g h.al root
  have step : ∀ n, 5000 < n → n < 4000000000000000000 → deps_Graph_reach (n - 1) (((), root, ()), (((), ()), mapOf l, ())) = reachA (mapOf l) r ∧ ref16_Used n ((root, l, ()), ()) = usedA r := fun n hn hN => by
    obtain ⟨ra, a1, a2⟩ := reach_at (n := n - 1) (by omega) h.g h.al root
    obtain ⟨rb, b1, b2⟩ := used_ref (n := n) h root (by omega) (by omega)
    obtain rfl := ReachA_eq h.g r1 a1
    obtain rfl := ReachA_eq h.g r1 b1
    exact ⟨a2, b2⟩
  cases r with
  | none =>
    refine .inl fun n hn hN => ?_
    obtain ⟨r2, q2⟩ := step n hn hN
    obtain ⟨n, rfl⟩ : ∃ q, n = q + 1 := ⟨n - 1, by omega⟩
    refine ⟨?_, q2⟩
    rw [deps_Graph_All, show deps_Graph_reach n (((), root, ()), (((), ()), mapOf l, ())) = _ from r2]
    rfl
  | some names =>
    obtain ⟨n1, n2, n3, n4⟩ := r1
    obtain ⟨r, a1, a2⟩ := both_loop h n3 n4 names.length [] (by simp) ⟨.nil, fun i hi => by cases hi⟩ (fun x hx => by cases hx)
    have eA : ∀ n, 5000 < n → n < 4000000000000000000 → deps_Graph_All n (((), root, ()), (((), ()), mapOf l, ())) = allB (mapOf l) r ∧ ref16_Used n ((root, l, ()), ()) = usedA (some names) ∧ ref16_Sorted n (((), l, ()), (names, ())) = sortB names r := fun n hn hN => by
      obtain ⟨r2, q2⟩ := step n hn hN
      obtain ⟨n, rfl⟩ : ∃ q, n = q + 1 := ⟨n - 1, by omega⟩
      obtain ⟨a3, a4⟩ := a2 n n (by omega) (by omega) (by omega)
      refine ⟨?_, q2, ?_⟩
      · rw [deps_Graph_All, show deps_Graph_reach n (((), root, ()), (((), ()), mapOf l, ())) = _ from r2]
        simp only [reachA]
        rw [if_neg (by decide), a3]
        cases r <;> rfl
      · rw [ref16_Sorted, a4]
        cases r <;> rfl
    cases r with
    | none => exact .inr (.inl ⟨names, eA⟩)
    | some al =>
      obtain ⟨o1, o2, o3⟩ := a1 al rfl
      exact .inr (.inr ⟨names, al, eA, o1, by omega, nodup_all o1.nd o3 o2 root ((n1 root).2 .base), fun s hs => n3 s (o3 s hs)⟩)
end Go.Proofs.YtnajjhjbkanigaaDoor.Pure
