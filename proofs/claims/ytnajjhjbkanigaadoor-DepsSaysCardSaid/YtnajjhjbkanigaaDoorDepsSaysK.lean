/- DepsSays, in plain words: names, uses, used, both ways. By this session. -/
import Derived.Test.YtnajjhjbkanigaaDoorDepsSaysJ
namespace Go.Proofs.YtnajjhjbkanigaaDoor.Pure
open Go Go.Proofs.YtnajjhjbkanigaaDoor.Cm
open Classical
set_option linter.unusedVariables false
set_option linter.unusedSimpArgs false
set_option maxRecDepth 100000
variable {g : ByteArray → Option SL} {Ds : SL}
theorem names_at {n : Nat} (hn : 3 < n) (G : Gb g Ds) {m : GM} (hm : Al g m) : deps_Graph_Names n (((), ()), (((), ()), m, ())) = some (((), ()), (((), ()), m, sortS Ds, ())) := by
  obtain ⟨n, rfl⟩ : ∃ q, n = q + 2 := ⟨n - 2, by omega⟩
  have hk : ∀ s, s ∈ keys m ↔ s ∈ Ds := fun s => by rw [← mfind_in, ← G.dom s, show mfind (keyEq (.str : Ty)) s m = g s from hm.at_ s]
  have hl : (keys m).length ≤ 16 := Nat.le_trans (nodup_len hm.nd fun x hx => (hk x).1 hx) G.len
  have hs : sortS (keys m) = sortS Ds := rising_eq (sortS_rising hm.nd) (sortS_rising G.nd) fun x => by rw [(sortS_perm _).mem_iff, (sortS_perm _).mem_iff, hk]
  have e : slices_Sorted_96 (n + 1) (((), ()), (((), ()), m, ())) = some (((), ()), (((), ()), m, sortS Ds, ())) := by
    show sortedSSem _ _ _ false _ _ = _
    unfold sortedSSem
    rw [if_pos (show wfKeysS (V := SL) m = true from wf_of fun s h => G.sz s ((hk s).1 h)), if_pos (show List.length m ≤ 1099511627776 by simp only [keys, List.length_map] at hl; omega), ← hs]
  rw [deps_Graph_Names]
  simp only [maps_Keys_map_string_string_string_string, e]
noncomputable def hasU (g : ByteArray → Option SL) (x s : ByteArray) : Bool := decide (x ∈ (g s).getD [])
theorem used_at {n : Nat} (hn : 100 < n) (hN : n < 4000000000000000000) (G : Gb g Ds) (x : ByteArray) {m : GM} (hm : Al g m) : deps_Graph_Used n (((), x, ()), (((), ()), m, ())) = some (((), ()), (((), ()), m, (sortS Ds).filter (hasU g x), ())) := by
  obtain ⟨n, rfl⟩ : ∃ q, n = q + 1 := ⟨n - 1, by omega⟩
  have hl : (sortS Ds).length ≤ 16 := by rw [(sortS_perm _).length_eq]; exact G.len
  have a := for_all (F := deps_Graph_Used_l3 n) (len := (sortS Ds).length) (fun i => (((), x, (), (), ((sortS Ds).length : Int), (i : Int), ()), (((), ()), m, ((sortS Ds).take i).filter (hasU g x), sortS Ds, ()))) (r := some (.inl (((), ()), (((), ()), m, (sortS Ds).filter (hasU g x), ())))) (fun i k hi => by
    have hf := G.get (List.getD (sortS Ds) i (Ty.dflt .str))
    have e := contains2_at (n := n) (l := (g (List.getD (sortS Ds) i (Ty.dflt .str))).getD []) x (by omega) (by omega)
    have hfl : (((sortS Ds).take i).filter (hasU g x)).length ≤ 16 := Nat.le_trans (List.length_filter_le _ _) (by rw [List.length_take]; omega)
    rw [deps_Graph_Used_l3, if_pos (decide_eq_true (show (i : Int) < ((sortS Ds).length : Int) by omega)), if_pos (show 0 ≤ (i : Int) ∧ (i : Int) < ((sortS Ds).length : Int) from ⟨by omega, by omega⟩)]
    simp only []
    rw [rdT_nat, show mfind (keyEq (.str : Ty)) (List.getD (sortS Ds) i (Ty.dflt .str)) m = g (List.getD (sortS Ds) i (Ty.dflt .str)) from hm.at_ _, e, w64_up i (by omega), take_succ (sortS Ds) i hi (Ty.dflt .str), List.filter_append]
    by_cases hx : x ∈ (g (List.getD (sortS Ds) i (Ty.dflt .str))).getD []
    · have e2 : [List.getD (sortS Ds) i (Ty.dflt .str)].filter (hasU g x) = [List.getD (sortS Ds) i (Ty.dflt .str)] := by
        rw [List.filter_cons, if_pos (show hasU g x (List.getD (sortS Ds) i (Ty.dflt .str)) = true from decide_eq_true hx)]
        rfl
      rw [e2]
      simp only []
      rw [if_pos (decide_eq_true hx), if_pos (by simp only [List.length_cons, List.length_nil]; omega)]
    · have e2 : [List.getD (sortS Ds) i (Ty.dflt .str)].filter (hasU g x) = [] := by
        rw [List.filter_cons, if_neg (show ¬ hasU g x (List.getD (sortS Ds) i (Ty.dflt .str)) = true from fun q => hx (of_decide_eq_true q))]
        rfl
      rw [e2, List.append_nil]
      simp only []
      rw [if_neg (by simpa using hx)]) (fun k => by
    rw [deps_Graph_Used_l3, if_neg (by simp), List.take_length]) (k := n) (by omega)
  rw [deps_Graph_Used, names_at (by omega) G hm]
  simp only []
  rw [show deps_Graph_Used_l3 n n (((), x, (), (), ((sortS Ds).length : Int), 0, ()), (((), ()), m, [], sortS Ds, ())) = _ from a]
theorem uses_at {n : Nat} (hn : 10 < n) (G : Gb g Ds) (x : ByteArray) {m : GM} (hm : Al g m) : deps_Graph_Uses n (((), x, ()), (((), ()), m, ())) = some (((), ()), (((), ()), m, (g x).getD [], ())) := by
  obtain ⟨n, rfl⟩ : ∃ q, n = q + 2 := ⟨n - 2, by omega⟩
  have hf := G.get x
  rw [deps_Graph_Uses]
  simp only []
  rw [show mfind (keyEq (.str : Ty)) x m = g x from hm.at_ x, slices_Clone_string_string, if_pos (by simp only [List.length_nil]; omega)]
/-! ### the document's -/
noncomputable def usedL (x : ByteArray) (l : List NodeT) : SL := (l.filter fun y => decide (x ∈ callsN y.2.2.2.2)).map (·.1)
def UsesOk (l : List NodeT) (x : ByteArray) (i : Nat) (us : SL) : Prop := (∀ j, j < i → (l.getD j (Ty.dflt ty0)).1 = x → us = callsN (l.getD j (Ty.dflt ty0)).2.2.2.2) ∧ ((∀ j, j < i → (l.getD j (Ty.dflt ty0)).1 ≠ x) → us = [])
theorem l24_at {n : Nat} {l : List NodeT} (h : Ok l) (x : ByteArray) (m : GM) (hn : 200 < n) (hN : n < 4000000000000000000) : ∀ d i k (us : SL), i + d = l.length → d < k → UsesOk l x i us → ∃ us', UsesOk l x l.length us' ∧
    law24_DepsSays_l24 n k ((l, x, (), (), us, (), (i : Int), ()), (((), ()), (l.take i).map (·.1), usedL x (l.take i), m, ())) = some (.inl ((l, x, (), (), us', (), ()), (((), ()), l.map (·.1), usedL x l, m, ()))) := by
  have hlen := h.len
  intro d
  induction d with
  | zero =>
    intro i k us hi hk hU
    obtain ⟨k, rfl⟩ : ∃ q, k = q + 1 := ⟨k - 1, by omega⟩
    obtain rfl : i = l.length := by omega
    exact ⟨us, hU, by rw [law24_DepsSays_l24, if_neg (by simp), List.take_length]⟩
  | succ d ih =>
    intro i k us hi hk hU
    obtain ⟨k, rfl⟩ : ∃ q, k = q + 1 := ⟨k - 1, by omega⟩
    have hil : i < l.length := by omega
    have hb : 0 ≤ (i : Int) ∧ (i : Int) < (l.length : Int) := ⟨by omega, by omega⟩
    have hr : rdT ty0 l (i : Int) = l.getD i (Ty.dflt ty0) := rfl
    have hx := h.light _ (getD_mem l i hil (Ty.dflt ty0))
    have hne : ∀ j, j < i → (l.getD j (Ty.dflt ty0)).1 ≠ (l.getD i (Ty.dflt ty0)).1 := fun j hj => nodup_ne _ h.nd hj hil
    have htk := take_succ l i hil (Ty.dflt ty0)
    have hm1 : (l.take (i + 1)).map (·.1) = (l.take i).map (·.1) ++ [(l.getD i (Ty.dflt ty0)).1] := by rw [htk, List.map_append]; rfl
    have hm2 : usedL x (l.take (i + 1)) = if x ∈ callsN (l.getD i (Ty.dflt ty0)).2.2.2.2 then usedL x (l.take i) ++ [(l.getD i (Ty.dflt ty0)).1] else usedL x (l.take i) := by
      unfold usedL
      rw [htk, List.filter_append, List.map_append]
      by_cases e : x ∈ callsN (l.getD i (Ty.dflt ty0)).2.2.2.2
      · rw [if_pos e, List.filter_cons, if_pos (decide_eq_true e)]; rfl
      · rw [if_neg e, List.filter_cons, if_neg (by simpa using e)]; simp
    have hl1 : ((l.take i).map (·.1)).length ≤ 16 := by rw [List.length_map, List.length_take]; omega
    have hl2 : (usedL x (l.take i)).length ≤ 16 := by
      unfold usedL
      rw [List.length_map]
      exact Nat.le_trans (List.length_filter_le _ _) (by rw [List.length_take]; omega)
    have hc := callsN_len (l.getD i (Ty.dflt ty0)).2.2.2.2
    have hc2 := hx.2
    have hcall : ref10_Calls n (ndIn (rdT ty0 l (i : Int))) = some ((callsN (l.getD i (Ty.dflt ty0)).2.2.2.2, ()), ()) := calls_ref (by omega) _ _ _ _ _ hx.2
    obtain ⟨a, a1, a2⟩ := among_is (n := n) (l := callsN (l.getD i (Ty.dflt ty0)).2.2.2.2) x (by omega) hN
    have hin := ih (i + 1) k
    rw [law24_DepsSays_l24, if_pos (decide_eq_true hb.2), if_pos hb, if_pos (by simp only [List.length_cons, List.length_nil]; omega), if_pos hb, show ref10_Calls n _ = _ from hcall]
    simp only []
    rw [if_pos hb, a2, w64_up i (by omega), hr, strEq_iff]
    simp only []
    rw [← hm1]
    rw [hm2] at hin
    have fin : ∀ us2, UsesOk l x (i + 1) us2 → ∃ us', UsesOk l x l.length us' ∧ (if decide (a ≥ 0) = true then (if 0 ≤ (i : Int) ∧ (i : Int) < (l.length : Int) then (if ((usedL x (l.take i)).length + ([(l.getD i (Ty.dflt ty0)).1] : List ByteArray).length) * 16 ≤ 140737488355328 then law24_DepsSays_l24 n k ((l, x, (), (), us2, (), ((i + 1 : Nat) : Int), ()), (((), ()), (l.take (i + 1)).map (·.1), usedL x (l.take i) ++ [(l.getD i (Ty.dflt ty0)).1], m, ())) else none) else none)
        else law24_DepsSays_l24 n k ((l, x, (), (), us2, (), ((i + 1 : Nat) : Int), ()), (((), ()), (l.take (i + 1)).map (·.1), usedL x (l.take i), m, ()))) = some (.inl ((l, x, (), (), us', (), ()), (((), ()), l.map (·.1), usedL x l, m, ()))) := fun us2 hU2 => by
      obtain ⟨us', u1, u2⟩ := hin us2 (by omega) (by omega) hU2
      refine ⟨us', u1, ?_⟩
      by_cases e : x ∈ callsN (l.getD i (Ty.dflt ty0)).2.2.2.2
      · rw [if_pos (decide_eq_true (a1.2 e)), if_pos hb, if_pos (by simp only [List.length_cons, List.length_nil]; omega)]
        rw [if_pos e] at u2
        exact u2
      · rw [if_neg (by simpa using fun q => e (a1.1 q))]
        rw [if_neg e] at u2
        exact u2
    by_cases e : (l.getD i (Ty.dflt ty0)).1 = x
    · obtain ⟨us', u1, u2⟩ := fin (callsN (l.getD i (Ty.dflt ty0)).2.2.2.2) ⟨fun j hj hjx => by
        by_cases e2 : j = i
        · rw [e2]
        · exact absurd (hjx.trans e.symm) (hne j (by omega)), fun q => absurd e (q i (by omega))⟩
      refine ⟨us', u1, ?_⟩
      rw [if_pos (decide_eq_true e)]
      exact u2
    · obtain ⟨us', u1, u2⟩ := fin us ⟨fun j hj hjx => by
        by_cases e2 : j = i
        · rw [e2] at hjx; exact absurd hjx e
        · exact hU.1 j (by omega) hjx, fun q => hU.2 fun j hj => q j (by omega)⟩
      refine ⟨us', u1, ?_⟩
      rw [if_neg (by simpa using e)]
      exact u2
theorem uses_eq {l : List NodeT} (h : Ok l) {x : ByteArray} {us : SL} (hU : UsesOk l x l.length us) : (gOf l x).getD [] = us := by
  by_cases e : ∃ j, j < l.length ∧ (l.getD j (Ty.dflt ty0)).1 = x
  · obtain ⟨j, hj, rfl⟩ := e
    rw [hU.1 j hj rfl, show gOf l (l.getD j (Ty.dflt ty0)).1 = _ from graph_get h.nd hj]
    rfl
  · have hn : ∀ j, j < l.length → (l.getD j (Ty.dflt ty0)).1 ≠ x := fun j hj q => e ⟨j, hj, q⟩
    rw [hU.2 hn, show gOf l x = none from graph_none fun hm => by
      obtain ⟨y, hy, q⟩ := List.mem_map.1 hm
      obtain ⟨j, hj, rfl⟩ := List.mem_iff_getElem.1 hy
      refine hn j hj ?_
      rw [List.getD_eq_getElem?_getD, List.getElem?_eq_getElem hj]
      exact q]
    rfl
theorem used_mem {l : List NodeT} (h : Ok l) (x s : ByteArray) : s ∈ (sortS (l.map (·.1))).filter (hasU (gOf l) x) ↔ s ∈ usedL x l := by
  rw [List.mem_filter, (sortS_perm _).mem_iff]
  unfold usedL hasU
  rw [List.mem_map, List.mem_map, decide_eq_true_eq]
  constructor
  · rintro ⟨⟨y, hy, rfl⟩, h2⟩
    obtain ⟨j, hj, rfl⟩ := List.mem_iff_getElem.1 hy
    have e : l.getD j (Ty.dflt ty0) = l[j]'hj := by rw [List.getD_eq_getElem?_getD, List.getElem?_eq_getElem hj]; rfl
    have := graph_get h.nd hj
    rw [e] at this
    rw [show gOf l (l[j]'hj).1 = _ from this] at h2
    exact ⟨_, List.mem_filter.2 ⟨hy, decide_eq_true h2⟩, rfl⟩
  · rintro ⟨y, hy, rfl⟩
    obtain ⟨hy, h2⟩ := List.mem_filter.1 hy
    refine ⟨⟨y, hy, rfl⟩, ?_⟩
    obtain ⟨j, hj, rfl⟩ := List.mem_iff_getElem.1 hy
    have e : l.getD j (Ty.dflt ty0) = l[j]'hj := by rw [List.getD_eq_getElem?_getD, List.getElem?_eq_getElem hj]; rfl
    have := graph_get h.nd hj
    rw [e] at this
    rw [show gOf l (l[j]'hj).1 = _ from this]
    exact of_decide_eq_true h2
end Go.Proofs.YtnajjhjbkanigaaDoor.Pure
