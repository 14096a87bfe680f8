/- DepsTurned, in plain words: the graph of nodes. By this session. -/
import Derived.Test.YtnajjhjbkanigaaDoorDepsTurnedD
namespace Go.Proofs.YtnajjhjbkanigaaDoor.Pure
open Go Go.Proofs.YtnajjhjbkanigaaDoor.Cm
open Classical
set_option linter.unusedVariables false
set_option linter.unusedSimpArgs false
set_option maxRecDepth 100000
theorem mem_compS {s : ByteArray} {l : SL} (h : s ∈ compS l) : s ∈ l := by
  unfold compS Lib.compact Lib.compactUpTo at h
  obtain ⟨b, hb, rfl⟩ := List.mem_map.1 h
  obtain ⟨i, hi, rfl⟩ := List.mem_map.1 hb
  have hi := List.mem_range.1 (List.mem_filter.1 hi).1
  rw [List.length_map] at hi
  have e : (l.map (fun q : ByteArray => q.data.toList)).toArray[i]! = (l[i]'hi).data.toList := by
    simp [hi]
  rw [e]
  have : (⟨(l[i]'hi).data.toList.toArray⟩ : ByteArray) = l[i]'hi := by simp
  rw [this]
  exact List.getElem_mem hi
theorem len_compS (l : SL) : (compS l).length ≤ l.length := by
  unfold compS Lib.compact Lib.compactUpTo
  rw [List.length_map, List.length_map, List.length_map]
  have := List.length_filter_le (Lib.keeps (l.map fun q : ByteArray => q.data.toList).toArray) (List.range l.length)
  simpa using this
/-- The nodes that equations use, as they come. -/
def callsL (es : List EqT) : SL := (es.filter fun q => !strEq q.2.2.2.1 (⟨#[]⟩ : ByteArray)).map fun q => q.2.2.2.1
def callsN (es : List EqT) : SL := compS (sortS (callsL es))
theorem callsL_take (es : List EqT) (i : Nat) (hi : i < es.length) (d : EqT) : callsL (es.take (i + 1)) = if !strEq (es.getD i d).2.2.2.1 (⟨#[]⟩ : ByteArray) then callsL (es.take i) ++ [(es.getD i d).2.2.2.1] else callsL (es.take i) := by
  unfold callsL
  rw [take_succ es i hi d, List.filter_append, List.map_append]
  by_cases h : (!strEq (es.getD i d).2.2.2.1 (⟨#[]⟩ : ByteArray)) = true
  · rw [if_pos h]
    have e : ([es.getD i d].filter fun q => !strEq q.2.2.2.1 (⟨#[]⟩ : ByteArray)) = [es.getD i d] := by simp only [List.filter, h]
    rw [e]
    rfl
  · rw [if_neg h]
    have h : (!strEq (es.getD i d).2.2.2.1 (⟨#[]⟩ : ByteArray)) = false := by simpa using h
    have e : ([es.getD i d].filter fun q => !strEq q.2.2.2.1 (⟨#[]⟩ : ByteArray)) = [] := by simp only [List.filter, h]
    rw [e]
    simp
theorem callsL_len (es : List EqT) : (callsL es).length ≤ es.length := by
  unfold callsL
  rw [List.length_map]
  exact List.length_filter_le _ _
theorem callsN_len (es : List EqT) : (callsN es).length ≤ es.length := by
  unfold callsN
  have h1 := len_compS (sortS (callsL es))
  have h2 := (sortS_perm (callsL es)).length_eq
  have h3 := callsL_len es
  omega
theorem calls_at {n : Nat} (hn : 100 < n) (nm : ByteArray) (i1 i2 i3 : List DeclT) (es : List EqT) (he : es.length ≤ 30) : scope_Calls n (((nm, i1, i2, i3, es, ()), ()), ()) = some (((), ()), (callsN es, ())) := by
  obtain ⟨n, rfl⟩ : ∃ q, n = q + 1 := ⟨n - 1, by omega⟩
  have h := for_all (F := scope_Calls_l3 n) (len := es.length) (fun i => (((), es, (es.length : Int), (i : Int), ()), (callsL (es.take i), ()))) (r := some (.inl (((), ()), (callsL es, ())))) (fun i k hi => by
    have hl := callsL_len (es.take i)
    rw [List.length_take] at hl
    rw [scope_Calls_l3, if_pos (decide_eq_true (show (i : Int) < (es.length : Int) by omega)), if_pos (show 0 ≤ (i : Int) ∧ (i : Int) < (es.length : Int) from ⟨by omega, by omega⟩), callsL_take es i hi (Ty.dflt ty11)]
    have hr : rdT ty11 es (i : Int) = es.getD i (Ty.dflt ty11) := rfl
    rw [hr]
    generalize (es.getD i (Ty.dflt ty11) : EqT) = q
    obtain ⟨pos, left, ex, nd, ar, ev⟩ := q
    simp only []
    by_cases h : (!strEq nd (⟨#[]⟩ : ByteArray)) = true
    · rw [if_pos h, if_pos h, if_pos (by simp only [List.length_cons, List.length_nil]; omega), w64_up i (by omega)]
    · rw [if_neg h, if_neg h, w64_up i (by omega)]) (fun k => by
    rw [scope_Calls_l3, if_neg (by simp), List.take_length]) (k := n) (by omega)
  have hl := callsL_len es
  have e1 : slices_Sort_string n (((), ()), (callsL es, ())) = some (((), ()), (sortS (callsL es), ())) := by
    show sortSem _ _ = _
    unfold sortSem
    rw [if_pos (show (callsL es).length ≤ 140737488355328 by omega)]
  have e2 : slices_Compact_string n (((), ()), (sortS (callsL es), ())) = some (((), ()), ((), callsN es, ())) := by
    show compSem _ _ = _
    unfold compSem
    rw [if_pos (show (sortS (callsL es)).length ≤ 140737488355328 by rw [(sortS_perm _).length_eq]; omega)]
    rfl
  rw [scope_Calls, show scope_Calls_l3 n n (((), es, (es.length : Int), 0, ()), ([], ())) = _ from h]
  simp only []
  rw [e1]
  simp only []
  rw [e2]
/-- The graph of nodes. -/
def mapOf (l : List NodeT) : GM := l.map fun x => (x.1, callsN x.2.2.2.2)
theorem mapOf_keys (l : List NodeT) : keys (mapOf l) = l.map (·.1) := by
  unfold mapOf keys
  rw [List.map_map]
  rfl
theorem mapOf_take (l : List NodeT) (i : Nat) (hi : i < l.length) (d : NodeT) : mapOf (l.take (i + 1)) = mapOf (l.take i) ++ [((l.getD i d).1, callsN (l.getD i d).2.2.2.2)] := by
  unfold mapOf
  rw [take_succ l i hi d, List.map_append]
  rfl
theorem not_nodup {l : List NodeT} {i : Nat} (hi : i < l.length) (d : NodeT) (h : (l.getD i d).1 ∈ keys (mapOf (l.take i))) : ¬ (l.map (·.1)).Nodup := by
  intro hn
  rw [mapOf_keys] at h
  have e : l.map (·.1) = (l.take i).map (·.1) ++ (l.drop i).map (·.1) := by rw [← List.map_append, List.take_append_drop]
  rw [e, List.nodup_append] at hn
  have hd : l.drop i = l.getD i d :: l.drop (i + 1) := by
    rw [List.drop_eq_getElem_cons hi, List.getD_eq_getElem?_getD, List.getElem?_eq_getElem hi]
    rfl
  exact hn.2.2 _ h _ (by rw [hd]; exact .head _) rfl
theorem new2_at {n : Nat} (hn : 200 < n) (l : List NodeT) (hl : l.length ≤ 14) (hL : ∀ x ∈ l, Light x) : (deps_New_2 n ((l, ()), ()) = some (.inl (((((), ()), (ErrV.nil, ()), ()), ()), (((), ()), mapOf l, ()))) ∧ (l.map (·.1)).Nodup) ∨ (∃ e, errNil e = false ∧ deps_New_2 n ((l, ()), ()) = some (.inr ((((((), ()), (e, ()), ()), ()), ()))) ∧ ¬ (l.map (·.1)).Nodup) := by
  obtain ⟨n, rfl⟩ : ∃ q, n = q + 1 := ⟨n - 1, by omega⟩
  have a := for_inv (F := deps_New_2_l5 n) (len := l.length) (st := fun i => (((), l, (l.length : Int), (i : Int), ()), (((), ()), mapOf (l.take i), ()))) (fun i => (keys (mapOf (l.take i))).Nodup)
    (fun r => (r = some (.inl (((), ()), (((), ()), mapOf l, ()))) ∧ (l.map (·.1)).Nodup) ∨ ((∃ e, errNil e = false ∧ r = some (.inr (.inl (((), e, ()), ())))) ∧ ¬ (l.map (·.1)).Nodup)) .nil (fun i k hi hI => by
      have hx := hL _ (getD_mem l i hi (Ty.dflt ty0))
      have hr : rdT ty0 l (i : Int) = l.getD i (Ty.dflt ty0) := rfl
      have hmt := mapOf_take l i hi (Ty.dflt ty0)
      have hnn := not_nodup (l := l) hi (Ty.dflt ty0)
      rw [deps_New_2_l5, if_pos (decide_eq_true (show (i : Int) < (l.length : Int) by omega)), if_pos (show 0 ≤ (i : Int) ∧ (i : Int) < (l.length : Int) from ⟨by omega, by omega⟩), hr]
      generalize (l.getD i (Ty.dflt ty0) : NodeT) = x at hx hmt hnn
      obtain ⟨nm, i1, i2, i3, es⟩ := x
      simp only [] at hmt hnn ⊢
      by_cases hin : nm ∈ keys (mapOf (l.take i))
      · rw [if_pos (mfind_in.2 hin)]
        exact .inr (.inr ⟨⟨_, rfl, rfl⟩, hnn hin⟩)
      · rw [if_neg (fun e => hin (mfind_in.1 e)), calls_at (by omega) nm i1 i2 i3 es hx.2]
        simp only []
        rw [mset_new hin, w64_up i (by omega), hmt]
        refine .inl ⟨?_, rfl⟩
        rw [keys, List.map_append, List.nodup_append]
        exact ⟨hI, by simp, fun a ha b hb e => by simp at hb; subst hb; subst e; exact hin ha⟩) (fun k hI => by
    rw [List.take_length] at hI
    rw [mapOf_keys] at hI
    refine .inl ⟨?_, hI⟩
    rw [deps_New_2_l5, if_neg (by simp), List.take_length]) n (by omega)
  rw [deps_New_2, if_neg (by simp; omega)]
  rcases a with ⟨a, ha⟩ | ⟨⟨e, he, a⟩, ha⟩
  · rw [show deps_New_2_l5 n n (((), l, (l.length : Int), 0, ()), (((), ()), [], ())) = _ from a]
    exact .inl ⟨rfl, ha⟩
  · rw [show deps_New_2_l5 n n (((), l, (l.length : Int), 0, ()), (((), ()), [], ())) = _ from a]
    exact .inr ⟨e, he, rfl, ha⟩
theorem new_at {n : Nat} (hn : 200 < n) (l : List NodeT) (hl : l.length ≤ 14) (hL : ∀ x ∈ l, Light x) : (deps_New n (((), ()), (l, ())) = some (.inl (((((), ()), (ErrV.nil, ()), ()), ()), (l, ((), ()), mapOf l, ()))) ∧ (l.map (·.1)).Nodup) ∨ (∃ e, errNil e = false ∧ deps_New n (((), ()), (l, ())) = some (.inr ((((((), ()), (e, ()), ()), ()), (l, ())))) ∧ ¬ (l.map (·.1)).Nodup) := by
  obtain ⟨n, rfl⟩ : ∃ q, n = q + 1 := ⟨n - 1, by omega⟩
  have a := for_inv (F := deps_New_l5 n) (len := l.length) (st := fun i => (((), (), (l.length : Int), (i : Int), ()), (l, ((), ()), mapOf (l.take i), ()))) (fun i => (keys (mapOf (l.take i))).Nodup)
    (fun r => (r = some (.inl (((), ()), (l, ((), ()), mapOf l, ()))) ∧ (l.map (·.1)).Nodup) ∨ ((∃ e, errNil e = false ∧ r = some (.inr (.inl (((), e, ()), (l, ()))))) ∧ ¬ (l.map (·.1)).Nodup)) .nil (fun i k hi hI => by
      have hx := hL _ (getD_mem l i hi (Ty.dflt ty0))
      have hr : rdT ty0 l (i : Int) = l.getD i (Ty.dflt ty0) := rfl
      have hmt := mapOf_take l i hi (Ty.dflt ty0)
      have hnn := not_nodup (l := l) hi (Ty.dflt ty0)
      rw [deps_New_l5, if_pos (decide_eq_true (show (i : Int) < (l.length : Int) by omega)), if_pos (show 0 ≤ (i : Int) ∧ (i : Int) < (l.length : Int) from ⟨by omega, by omega⟩), hr]
      generalize (l.getD i (Ty.dflt ty0) : NodeT) = x at hx hmt hnn
      obtain ⟨nm, i1, i2, i3, es⟩ := x
      simp only [] at hmt hnn ⊢
      by_cases hin : nm ∈ keys (mapOf (l.take i))
      · rw [if_pos (mfind_in.2 hin)]
        exact .inr (.inr ⟨⟨_, rfl, rfl⟩, hnn hin⟩)
      · rw [if_neg (fun e => hin (mfind_in.1 e)), calls_at (by omega) nm i1 i2 i3 es hx.2]
        simp only []
        rw [mset_new hin, w64_up i (by omega), hmt]
        refine .inl ⟨?_, rfl⟩
        rw [keys, List.map_append, List.nodup_append]
        exact ⟨hI, by simp, fun a ha b hb e => by simp at hb; subst hb; subst e; exact hin ha⟩) (fun k hI => by
    rw [List.take_length] at hI
    rw [mapOf_keys] at hI
    refine .inl ⟨?_, hI⟩
    rw [deps_New_l5, if_neg (by simp), List.take_length]) n (by omega)
  rw [deps_New, if_neg (by simp; omega)]
  rcases a with ⟨a, ha⟩ | ⟨⟨e, he, a⟩, ha⟩
  · rw [show deps_New_l5 n n (((), (), (l.length : Int), 0, ()), (l, ((), ()), [], ())) = _ from a]
    exact .inl ⟨rfl, ha⟩
  · rw [show deps_New_l5 n n (((), (), (l.length : Int), 0, ()), (l, ((), ()), [], ())) = _ from a]
    exact .inr ⟨e, he, rfl, ha⟩
theorem mem_mfindG {m : GM} {p : ByteArray × SL} (h : (keys m).Nodup) (hp : p ∈ m) : mfind kst p.1 m = some p.2 := by
  induction m with
  | nil => cases hp
  | cons a m ih =>
    have h2 : a.1 ∉ keys m ∧ (keys m).Nodup := List.nodup_cons.1 h
    unfold mfind
    rcases List.mem_cons.1 hp with rfl | hp
    · rw [if_pos ((kq _ _).2 rfl)]
    · rw [if_neg (fun e => h2.1 (by rw [← (kq _ _).1 e]; exact List.mem_map.2 ⟨p, hp, rfl⟩)), ih h2.2 hp]
theorem perm_find {a b : GM} (hp : a.Perm b) (ha : (keys a).Nodup) (s : ByteArray) : mfind kst s b = mfind kst s a := by
  have hk : (keys a).Perm (keys b) := hp.map _
  by_cases hs : s ∈ keys a
  · obtain ⟨p, hpm, rfl⟩ := List.mem_map.1 hs
    rw [mem_mfindG ha hpm, mem_mfindG (hk.nodup_iff.1 ha) (hp.mem_iff.1 hpm)]
  · rw [show mfind kst s a = none from mfind_out hs, show mfind kst s b = none from mfind_out (fun e => hs (hk.mem_iff.2 e))]
theorem graph_of {l : List NodeT} (hl : l.length ≤ 14) (hL : ∀ x ∈ l, Light x) (hn : (l.map (·.1)).Nodup) : Gb (fun s => mfind kst s (mapOf l)) (l.map (·.1)) := by
  have hk := mapOf_keys l
  refine ⟨fun s v hs => ?_, fun s => ?_, by rw [List.length_map]; exact hl, fun s hs => ?_, hn⟩
  · have hin : s ∈ keys (mapOf l) := mfind_in.1 (by rw [show mfind (keyEq (.str : Ty)) s (mapOf l) = some v from hs]; rfl)
    obtain ⟨p, hp, rfl⟩ := List.mem_map.1 hin
    have := mem_mfindG (by rw [hk]; exact hn) hp
    rw [show mfind kst p.1 (mapOf l) = some v from hs] at this
    obtain ⟨x, hx, rfl⟩ := List.mem_map.1 hp
    cases this
    exact Nat.le_trans (callsN_len _) (hL x hx).2
  · rw [show (mfind kst s (mapOf l)).isSome = true ↔ s ∈ keys (mapOf l) from mfind_in, hk]
  · obtain ⟨x, hx, rfl⟩ := List.mem_map.1 hs
    have := (hL x hx).1
    omega
theorem first_at {n : Nat} (hn : 200 ≤ n) : law24_first n ((), ()) = some ((true, ()), ()) := by
  obtain ⟨n, rfl⟩ : ∃ m, n = m + 100 := ⟨n - 100, by omega⟩
  kernel_rfl
theorem Number_at {n : Nat} (hn : 1 ≤ n) (x : Int) {m : Int} (hm : 0 < m) (hm2 : m < 1000000000) : world_Number n ((x, m, ()), ()) = some ((num x m, ()), ()) := by
  obtain ⟨n, rfl⟩ : ∃ m, n = m + 1 := ⟨n - 1, by omega⟩
  have := tmod_b x m hm
  simp only [world_Number]
  rw [if_neg (show ¬ (m = 0) by omega)]
  unfold num
  by_cases h : Int.tmod x m < 0
  · rw [if_pos (decide_eq_true h), if_pos h, w64_id (by omega) (by omega)]
  · rw [if_neg (by simpa using h), if_neg h]
end Go.Proofs.YtnajjhjbkanigaaDoor.Pure
