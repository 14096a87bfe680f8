/- DepsSays, in plain words: what nodes use; the graph of nodes. By this session. -/
import Derived.Test.YtnajjhjbkanigaaDoorDepsSaysE
namespace Go.Proofs.YtnajjhjbkanigaaDoor.Pure
open Go Go.Proofs.YtnajjhjbkanigaaDoor.Cm
open Classical
set_option linter.unusedVariables false
set_option linter.unusedSimpArgs false
set_option maxRecDepth 100000
theorem len_compS (l : SL) : (compS l).length ≤ l.length := by
  unfold compS Lib.compact Lib.compactUpTo
  rw [List.length_map, List.length_map, List.length_map]
  have := List.length_filter_le (Lib.keeps (l.map fun q : ByteArray => q.data.toList).toArray) (List.range l.length)
  simpa using this
/-- The nodes that equations use, as they come. -/
def callsL (es : List EqT) : SL := (es.filter fun q => !strEq q.2.2.2.1 (⟨#[]⟩ : ByteArray)).map fun q => q.2.2.2.1
def callsN (es : List EqT) : SL := compS (sortS (callsL es))
theorem callsL_take (es : List EqT) (i : Nat) (hi : i < es.length) (d : EqT) : callsL (es.take (i + 1)) = if !strEq (es.getD i d).2.2.2.1 (⟨#[]⟩ : ByteArray) then callsL (es.take i) ++ [(es.getD i d).2.2.2.1] else callsL (es.take i) := by
  unfold callsL
  rw [take_succ es i hi d, List.filter_append, List.map_append]
  by_cases h : (!strEq (es.getD i d).2.2.2.1 (⟨#[]⟩ : ByteArray)) = true
  · rw [if_pos h]
    have e : ([es.getD i d].filter fun q => !strEq q.2.2.2.1 (⟨#[]⟩ : ByteArray)) = [es.getD i d] := by simp only [List.filter, h]
    rw [e]
    rfl
  · rw [if_neg h]
    have h : (!strEq (es.getD i d).2.2.2.1 (⟨#[]⟩ : ByteArray)) = false := by simpa using h
    have e : ([es.getD i d].filter fun q => !strEq q.2.2.2.1 (⟨#[]⟩ : ByteArray)) = [] := by simp only [List.filter, h]
    rw [e]
    simp
theorem callsL_len (es : List EqT) : (callsL es).length ≤ es.length := by
  unfold callsL
  rw [List.length_map]
  exact List.length_filter_le _ _
theorem callsN_len (es : List EqT) : (callsN es).length ≤ es.length := by
  unfold callsN
  have h1 := len_compS (sortS (callsL es))
  have h2 := (sortS_perm (callsL es)).length_eq
  have h3 := callsL_len es
  omega
theorem calls_at {n : Nat} (hn : 100 < n) (nm : ByteArray) (i1 i2 i3 : List DeclT) (es : List EqT) (he : es.length ≤ 30) : scope_Calls n (((nm, i1, i2, i3, es, ()), ()), ()) = some (((), ()), (callsN es, ())) := by
  obtain ⟨n, rfl⟩ : ∃ q, n = q + 1 := ⟨n - 1, by omega⟩
  have h := for_all (F := scope_Calls_l3 n) (len := es.length) (fun i => (((), es, (es.length : Int), (i : Int), ()), (callsL (es.take i), ()))) (r := some (.inl (((), ()), (callsL es, ())))) (fun i k hi => by
    have hl := callsL_len (es.take i)
    rw [List.length_take] at hl
    rw [scope_Calls_l3, if_pos (decide_eq_true (show (i : Int) < (es.length : Int) by omega)), if_pos (show 0 ≤ (i : Int) ∧ (i : Int) < (es.length : Int) from ⟨by omega, by omega⟩), callsL_take es i hi (Ty.dflt ty11)]
    have hr : rdT ty11 es (i : Int) = es.getD i (Ty.dflt ty11) := rfl
    rw [hr]
    generalize (es.getD i (Ty.dflt ty11) : EqT) = q
    obtain ⟨pos, left, ex, nd, ar, ev⟩ := q
    simp only []
    by_cases h : (!strEq nd (⟨#[]⟩ : ByteArray)) = true
    · rw [if_pos h, if_pos h, if_pos (by simp only [List.length_cons, List.length_nil]; omega), w64_up i (by omega)]
    · rw [if_neg h, if_neg h, w64_up i (by omega)]) (fun k => by
    rw [scope_Calls_l3, if_neg (by simp), List.take_length]) (k := n) (by omega)
  have hl := callsL_len es
  have e1 : slices_Sort_string n (((), ()), (callsL es, ())) = some (((), ()), (sortS (callsL es), ())) := by
    show sortSem _ _ = _
    unfold sortSem
    rw [if_pos (show (callsL es).length ≤ 140737488355328 by omega)]
  have e2 : slices_Compact_string n (((), ()), (sortS (callsL es), ())) = some (((), ()), ((), callsN es, ())) := by
    show compSem _ _ = _
    unfold compSem
    rw [if_pos (show (sortS (callsL es)).length ≤ 140737488355328 by rw [(sortS_perm _).length_eq]; omega)]
    rfl
  rw [scope_Calls, show scope_Calls_l3 n n (((), es, (es.length : Int), 0, ()), ([], ())) = _ from h]
  simp only []
  rw [e1]
  simp only []
  rw [e2]
theorem callsN_rising (es : List EqT) : Rising (callsN es) := (comp_sort (callsL es)).1
/-- The document's own: the same. -/
theorem calls_ref {n : Nat} (hn : 100 < n) (nm : ByteArray) (i1 i2 i3 : List DeclT) (es : List EqT) (he : es.length ≤ 30) : ref10_Calls n (((nm, i1, i2, i3, es, ()), ()), ()) = some ((callsN es, ()), ()) := by
  obtain ⟨n, rfl⟩ : ∃ q, n = q + 1 := ⟨n - 1, by omega⟩
  have h := for_all (F := ref10_Calls_l3 n) (len := es.length) (fun i => (((), (), (i : Int), ()), ((nm, i1, i2, i3, es, ()), callsL (es.take i), ()))) (r := some (.inl (((), ()), (callsL es, ())))) (fun i k hi => by
    have hl := callsL_len (es.take i)
    rw [List.length_take] at hl
    rw [ref10_Calls_l3, if_pos (decide_eq_true (show (i : Int) < (es.length : Int) by omega)), if_pos (show 0 ≤ (i : Int) ∧ (i : Int) < (es.length : Int) from ⟨by omega, by omega⟩), callsL_take es i hi (Ty.dflt ty11)]
    have hr : rdT ty11 es (i : Int) = es.getD i (Ty.dflt ty11) := rfl
    rw [hr]
    generalize (es.getD i (Ty.dflt ty11) : EqT) = q
    obtain ⟨pos, left, ex, nd, ar, ev⟩ := q
    simp only []
    by_cases h : (!strEq nd (⟨#[]⟩ : ByteArray)) = true
    · rw [if_pos h, if_pos h, if_pos (show 0 ≤ (i : Int) ∧ (i : Int) < (es.length : Int) from ⟨by omega, by omega⟩), if_pos (by simp only [List.length_cons, List.length_nil]; omega), w64_up i (by omega)]
    · rw [if_neg h, if_neg h, w64_up i (by omega)]) (fun k => by
    rw [ref10_Calls_l3, if_neg (by simp), List.take_length]) (k := n) (by omega)
  have hl := callsL_len es
  obtain ⟨R, r1, r2, r3, r4⟩ := rising_ref (n := n) (callsL es) (by omega) (by omega)
  have e : R = callsN es := rising_eq r1 (callsN_rising es) fun x => by rw [r3 x]; exact ((comp_sort (callsL es)).2 x).symm
  rw [ref10_Calls, show ref10_Calls_l3 n n (((), (), 0, ()), ((nm, i1, i2, i3, es, ()), [], ())) = _ from h]
  simp only []
  rw [r4, e]
/-- The graph of nodes. -/
def mapOf (l : List NodeT) : GM := l.map fun x => (x.1, callsN x.2.2.2.2)
theorem mapOf_keys (l : List NodeT) : keys (mapOf l) = l.map (·.1) := by
  unfold mapOf keys
  rw [List.map_map]
  rfl
theorem mapOf_take (l : List NodeT) (i : Nat) (hi : i < l.length) (d : NodeT) : mapOf (l.take (i + 1)) = mapOf (l.take i) ++ [((l.getD i d).1, callsN (l.getD i d).2.2.2.2)] := by
  unfold mapOf
  rw [take_succ l i hi d, List.map_append]
  rfl
theorem mem_mfindG {m : GM} {p : ByteArray × SL} (h : (keys m).Nodup) (hp : p ∈ m) : mfind kst p.1 m = some p.2 := by
  induction m with
  | nil => cases hp
  | cons a m ih =>
    have h2 : a.1 ∉ keys m ∧ (keys m).Nodup := List.nodup_cons.1 h
    unfold mfind
    rcases List.mem_cons.1 hp with rfl | hp
    · rw [if_pos ((kq _ _).2 rfl)]
    · rw [if_neg (fun e => h2.1 (by rw [← (kq _ _).1 e]; exact List.mem_map.2 ⟨p, hp, rfl⟩)), ih h2.2 hp]
theorem new_dup {l : List NodeT} {i : Nat} (d : NodeT) (h : (l.getD i d).1 ∈ keys (mapOf (l.take i))) : ∃ q, q < i ∧ q < l.length ∧ (l.getD q d).1 = (l.getD i d).1 := by
  rw [mapOf_keys] at h
  obtain ⟨x, hx, e⟩ := List.mem_map.1 h
  obtain ⟨q, hq, rfl⟩ := List.mem_iff_getElem.1 hx
  rw [List.length_take] at hq
  refine ⟨q, by omega, by omega, ?_⟩
  rw [← e, List.getD_eq_getElem?_getD, List.getElem?_eq_getElem (show q < l.length by omega), List.getElem_take]
  rfl
theorem nodup_ne {l : List NodeT} (d : NodeT) (h : (l.map (·.1)).Nodup) {a b : Nat} (hab : a < b) (hb : b < l.length) : (l.getD a d).1 ≠ (l.getD b d).1 := by
  have := List.pairwise_iff_getElem.1 h a b (by rw [List.length_map]; omega) (by rw [List.length_map]; omega) hab
  rw [List.getElem_map, List.getElem_map] at this
  rw [List.getD_eq_getElem?_getD, List.getElem?_eq_getElem (show a < l.length by omega), List.getD_eq_getElem?_getD, List.getElem?_eq_getElem hb]
  exact this
theorem getD_take {l : List NodeT} (d : NodeT) {a i : Nat} (ha : a < i) : (l.take i).getD a d = l.getD a d := by
  rw [List.getD_eq_getElem?_getD, List.getD_eq_getElem?_getD, List.getElem?_take, if_pos ha]
/-- The graph, or the first that comes twice. -/
theorem new2_at {n : Nat} (hn : 200 < n) (l : List NodeT) (hl : l.length ≤ 16) (hL : ∀ x ∈ l, Light x) : (deps_New_2 n ((l, ()), ()) = some (.inl (((((), ()), (ErrV.nil, ()), ()), ()), (((), ()), mapOf l, ()))) ∧ (l.map (·.1)).Nodup) ∨ (∃ i, i < l.length ∧ deps_New_2 n ((l, ()), ()) = some (.inr ((((((), ()), (ErrV.at_ (i : Int) (ErrV.sent 110), ()), ()), ()), ()))) ∧ ((l.take i).map (·.1)).Nodup ∧ ∃ q, q < i ∧ (l.getD q (Ty.dflt ty0)).1 = (l.getD i (Ty.dflt ty0)).1) := by
  obtain ⟨n, rfl⟩ : ∃ q, n = q + 1 := ⟨n - 1, by omega⟩
  have a := for_inv (F := deps_New_2_l5 n) (len := l.length) (st := fun i => (((), l, (l.length : Int), (i : Int), ()), (((), ()), mapOf (l.take i), ()))) (fun i => (keys (mapOf (l.take i))).Nodup)
    (fun r => (r = some (.inl (((), ()), (((), ()), mapOf l, ()))) ∧ (l.map (·.1)).Nodup) ∨ (∃ i, i < l.length ∧ r = some (.inr (.inl (((), ErrV.at_ (i : Int) (ErrV.sent 110), ()), ()))) ∧ ((l.take i).map (·.1)).Nodup ∧ ∃ q, q < i ∧ (l.getD q (Ty.dflt ty0)).1 = (l.getD i (Ty.dflt ty0)).1)) .nil (fun i k hi hI => by
      have hx := hL _ (getD_mem l i hi (Ty.dflt ty0))
      have hr : rdT ty0 l (i : Int) = l.getD i (Ty.dflt ty0) := rfl
      have hmt := mapOf_take l i hi (Ty.dflt ty0)
      have hnn := new_dup (l := l) (i := i) (Ty.dflt ty0)
      rw [deps_New_2_l5, if_pos (decide_eq_true (show (i : Int) < (l.length : Int) by omega)), if_pos (show 0 ≤ (i : Int) ∧ (i : Int) < (l.length : Int) from ⟨by omega, by omega⟩), hr]
      by_cases hin : (l.getD i (Ty.dflt ty0)).1 ∈ keys (mapOf (l.take i))
      · obtain ⟨q, q1, q2, q3⟩ := hnn hin
        refine .inr (.inr ⟨i, hi, ?_, by rw [mapOf_keys] at hI; exact hI, q, q1, q3⟩)
        simp only []
        rw [if_pos (mfind_in.2 hin)]
      · generalize (l.getD i (Ty.dflt ty0) : NodeT) = x at hx hmt hnn hin
        obtain ⟨nm, i1, i2, i3, es⟩ := x
        simp only [] at hmt hnn hin ⊢
        rw [if_neg (fun e => hin (mfind_in.1 e)), calls_at (by omega) nm i1 i2 i3 es hx.2]
        simp only []
        rw [mset_new hin, w64_up i (by omega), hmt]
        refine .inl ⟨?_, rfl⟩
        rw [keys, List.map_append, List.nodup_append]
        exact ⟨hI, by simp, fun a ha b hb e => by simp at hb; subst hb; subst e; exact hin ha⟩) (fun k hI => by
    rw [List.take_length] at hI
    rw [mapOf_keys] at hI
    refine .inl ⟨?_, hI⟩
    rw [deps_New_2_l5, if_neg (by simp), List.take_length]) n (by omega)
  rw [deps_New_2, if_neg (by simp; omega)]
  rcases a with ⟨a, ha⟩ | ⟨i, hi, a, ha⟩
  · rw [show deps_New_2_l5 n n (((), l, (l.length : Int), 0, ()), (((), ()), [], ())) = _ from a]
    exact .inl ⟨rfl, ha⟩
  · rw [show deps_New_2_l5 n n (((), l, (l.length : Int), 0, ()), (((), ()), [], ())) = _ from a]
    exact .inr ⟨i, hi, rfl, ha⟩
/-! ### the document's: where a node stands -/
theorem find_at {n : Nat} {l : List NodeT} (x : ByteArray) (hn : l.length + 1 < n) (hN : l.length < 1000000) : (∃ j : Nat, j < l.length ∧ (l.getD j (Ty.dflt ty0)).1 = x ∧ ref16_find n ((l, x, ()), ()) = some (((j : Int), ()), ())) ∨ (x ∉ l.map (·.1) ∧ ref16_find n ((l, x, ()), ()) = some (((-1), ()), ())) := by
  obtain ⟨n, rfl⟩ : ∃ q, n = q + 1 := ⟨n - 1, by omega⟩
  have h := for_inv (F := ref16_find_l2 n) (len := l.length) (st := fun i => ((l, x, (i : Int), ()), ())) (fun i => ∀ j, j < i → (l.getD j (Ty.dflt ty0)).1 ≠ x) (fun r => (∃ j : Nat, j < l.length ∧ (l.getD j (Ty.dflt ty0)).1 = x ∧ r = some (.inr (.inl (((j : Int), ()), ())))) ∨ (x ∉ l.map (·.1) ∧ r = some (.inl ((), ())))) (fun j hj => by omega) (fun i k hi hI => by
      have hr : rdT ty0 l (i : Int) = l.getD i (Ty.dflt ty0) := rfl
      rw [ref16_find_l2, if_pos (decide_eq_true (show (i : Int) < (l.length : Int) by omega)), if_pos (show (0 : Int) ≤ (i : Int) ∧ (i : Int) < (l.length : Int) by omega), hr, strEq_iff]
      by_cases e : (l.getD i (Ty.dflt ty0)).1 = x
      · refine .inr (.inl ⟨i, hi, e, ?_⟩)
        rw [decide_eq_true e, if_pos rfl]
      · refine .inl ⟨fun j hj => ?_, ?_⟩
        · by_cases e2 : j = i
          · rw [e2]; exact e
          · exact hI j (by omega)
        · rw [decide_eq_false e, if_neg (by decide), w64_up i (by omega)]) (fun k hI => by
      refine .inr ⟨fun hm => ?_, by rw [ref16_find_l2, if_neg (by simp)]⟩
      obtain ⟨y, hy, e⟩ := List.mem_map.1 hm
      obtain ⟨j, hj, rfl⟩ := List.mem_iff_getElem.1 hy
      refine hI j hj ?_
      rw [List.getD_eq_getElem?_getD, List.getElem?_eq_getElem hj]
      exact e) n (by omega)
  rw [ref16_find]
  rcases h with ⟨j, h1, h2, h3⟩ | ⟨h1, h2⟩
  · rw [show ref16_find_l2 n n ((l, x, 0, ()), ()) = _ from h3]
    exact .inl ⟨j, h1, h2, rfl⟩
  · rw [show ref16_find_l2 n n ((l, x, 0, ()), ()) = _ from h2]
    exact .inr ⟨h1, rfl⟩
/-- What the graph finds: what the node there uses. -/
theorem graph_get {l : List NodeT} (hn : (l.map (·.1)).Nodup) {j : Nat} (hj : j < l.length) : mfind kst (l.getD j (Ty.dflt ty0)).1 (mapOf l) = some (callsN (l.getD j (Ty.dflt ty0)).2.2.2.2) :=
  mem_mfindG (p := ((l.getD j (Ty.dflt ty0)).1, callsN (l.getD j (Ty.dflt ty0)).2.2.2.2)) (by rw [mapOf_keys]; exact hn) (List.mem_map.2 ⟨_, getD_mem l j hj _, rfl⟩)
theorem graph_none {l : List NodeT} {x : ByteArray} (h : x ∉ l.map (·.1)) : mfind kst x (mapOf l) = none := mfind_out (by rw [mapOf_keys]; exact h)
theorem graph_of {l : List NodeT} (hl : l.length ≤ 16) (hL : ∀ x ∈ l, Light x) (hn : (l.map (·.1)).Nodup) : Gb (fun s => mfind kst s (mapOf l)) (l.map (·.1)) := by
  have hk := mapOf_keys l
  refine ⟨fun s v hs => ?_, fun s => ?_, by rw [List.length_map]; exact hl, fun s hs => ?_, hn⟩
  · have hin : s ∈ keys (mapOf l) := mfind_in.1 (by rw [show mfind (keyEq (.str : Ty)) s (mapOf l) = some v from hs]; rfl)
    obtain ⟨p, hp, rfl⟩ := List.mem_map.1 hin
    have := mem_mfindG (by rw [hk]; exact hn) hp
    rw [show mfind kst p.1 (mapOf l) = some v from hs] at this
    obtain ⟨x, hx, rfl⟩ := List.mem_map.1 hp
    cases this
    exact Nat.le_trans (callsN_len _) (hL x hx).2
  · rw [show (mfind kst s (mapOf l)).isSome = true ↔ s ∈ keys (mapOf l) from mfind_in, hk]
  · obtain ⟨x, hx, rfl⟩ := List.mem_map.1 hs
    have := (hL x hx).1
    omega
theorem first_at {n : Nat} (hn : 200 ≤ n) : law24_first n ((), ()) = some ((true, ()), ()) := by
  obtain ⟨n, rfl⟩ : ∃ m, n = m + 100 := ⟨n - 100, by omega⟩
  kernel_rfl
end Go.Proofs.YtnajjhjbkanigaaDoor.Pure
