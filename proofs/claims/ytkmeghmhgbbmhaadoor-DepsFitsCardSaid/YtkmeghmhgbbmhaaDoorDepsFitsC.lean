/- DepsFits, in plain words: what comes in order; who uses; how deep. By this session. -/
import Derived.Test.YtkmeghmhgbbmhaaDoorDepsFitsB
namespace Go.Proofs.YtkmeghmhgbbmhaaDoor.Pure
open Go Go.Proofs.YtkmeghmhgbbmhaaDoor.Cm
open Classical
set_option linter.unusedVariables false
set_option maxRecDepth 100000
/-- A graph whose uses go up. -/
structure Up (m : GM) (rank : ByteArray → Nat) (M : Nat) : Prop where
  nd : (keys m).Nodup
  few : ∀ s ∈ keys m, (mget m s).length ≤ M
  M : M ≤ 20
  cl : ∀ s ∈ keys m, ∀ u ∈ mget m s, u ∈ keys m
  up : ∀ s ∈ keys m, ∀ u ∈ mget m s, rank s < rank u
  len : (keys m).length ≤ 20
  sz : ∀ s ∈ keys m, s.size ≤ 1099511627776
structure Names (m : GM) (root : ByteArray) (names : SL) : Prop where
  nd : names.Nodup
  k : ∀ s ∈ names, s ∈ keys m
  rt : root ∈ names
  cl : ∀ s ∈ names, ∀ u ∈ mget m s, u ∈ names
  par : ∀ s ∈ names, s = root ∨ ∃ p ∈ names, s ∈ mget m p
theorem wf_of {V : Type} {m : List (ByteArray × V)} (h : ∀ s ∈ keys m, s.size ≤ 1099511627776) : wfKeysS m = true := by
  unfold wfKeysS
  rw [List.all_eq_true]
  exact fun p hp => decide_eq_true (h p.1 (List.mem_map.2 ⟨p, hp, rfl⟩))
theorem reach_at {n : Nat} {m : GM} {rank : ByteArray → Nat} {M : Nat} (U : Up m rank M) {root : ByteArray} (hr : root ∈ keys m) (hn : 500 < n) (hN : n < 1000000) :
    ∃ names, Names m root names ∧ deps_Graph_reach n (((), root, ()), (((), ()), m, ())) = some (((((), ()), (ErrV.nil, ()), ()), ()), (((), ()), m, names, ())) := by
  obtain ⟨n, rfl⟩ : ∃ q, n = q + 2 := ⟨n - 2, by omega⟩
  have hM := U.M
  have hrem : rem m [] ≤ 20 := Nat.le_trans (List.length_filter_le _ _) U.len
  have hmul : rem m [] * (M + 1) ≤ 20 * 21 := Nat.mul_le_mul hrem (by omega)
  obtain ⟨met, hI, he⟩ := reach_loop (n := n + 1) (root := root) U.few (by omega) U.cl 450 (n + 1) [] [root]
    ⟨by simp [keys], fun s hs => by simp [keys] at hs, fun s hs => by simp at hs; subst hs; exact hr, fun s hs => by simp [keys] at hs, .inl (.head _), fun s hs => by simp [keys] at hs, fun s hs => hs.elim (fun h => .inl (by simpa using h)) (fun h => by simp [keys] at h)⟩
    (by simp only [List.length_singleton]; omega) (by omega) (by omega)
  have hml : met.length ≤ 20 := by
    have := nodup_len hI.nd hI.k2
    have h2 := U.len
    simp only [keys, List.length_map] at this h2 ⊢
    omega
  have hp := sortS_perm (keys met)
  refine ⟨sortS (keys met), ⟨hp.nodup_iff.2 hI.nd, fun s hs => hI.k2 s (hp.mem_iff.1 hs), ?_, fun s hs u hu => ?_, fun s hs => ?_⟩, ?_⟩
  · rcases hI.rt with h | h
    · cases h
    · exact hp.mem_iff.2 h
  · rcases hI.closed s (hp.mem_iff.1 hs) u hu with h | h
    · exact hp.mem_iff.2 h
    · cases h
  · rcases hI.par s (.inr (hp.mem_iff.1 hs)) with h | ⟨p, h1, h2⟩
    · exact .inl h
    · exact .inr ⟨p, hp.mem_iff.2 h1, h2⟩
  · have e : slices_Sorted_42 (n + 1) (((), ()), (((), ()), met, ())) = some (((), ()), (((), ()), met, sortS (keys met), ())) := by
      show sortedSSem 65 9 (.int .i64) false 42 _ = _
      unfold sortedSSem
      rw [if_pos (show wfKeysS (V := Int) met = true from wf_of (fun s hs => U.sz s (hI.k2 s hs))), if_pos (show List.length met ≤ 1099511627776 by omega)]
    rw [deps_Graph_reach, he]
    simp only [maps_Keys_map_string_int_string_int, e]
theorem all_in {l m : SL} (h : l.Nodup) (hs : ∀ x ∈ l, x ∈ m) (hl : m.length ≤ l.length) (hm : m.Nodup) : ∀ x ∈ m, x ∈ l := by
  intro x hx
  by_cases hxl : x ∈ l
  · exact hxl
  · exfalso
    have := nodup_len (l := x :: l) (m := m) (List.nodup_cons.2 ⟨hxl, h⟩) (fun y hy => by
      rcases List.mem_cons.1 hy with rfl | hy
      · exact hx
      · exact hs y hy)
    simp only [List.length_cons] at this
    omega
theorem top {l : SL} (p : ByteArray → Prop) (rank : ByteArray → Nat) (h : ∃ s ∈ l, p s) : ∃ s ∈ l, p s ∧ ∀ t ∈ l, p t → rank t ≤ rank s := by
  induction l with
  | nil => obtain ⟨s, hs, _⟩ := h; cases hs
  | cons a l ih =>
    by_cases hl : ∃ s ∈ l, p s
    · obtain ⟨s, h1, h2, h3⟩ := ih hl
      by_cases ha : p a ∧ rank s < rank a
      · refine ⟨a, .head _, ha.1, fun t ht hp => ?_⟩
        rcases List.mem_cons.1 ht with rfl | ht
        · exact Nat.le_refl _
        · have := h3 t ht hp; omega
      · refine ⟨s, .tail _ h1, h2, fun t ht hp => ?_⟩
        rcases List.mem_cons.1 ht with rfl | ht
        · by_cases hlt : rank s < rank t
          · exact absurd ⟨hp, hlt⟩ ha
          · omega
        · exact h3 t ht hp
    · obtain ⟨s, hs, hp⟩ := h
      rcases List.mem_cons.1 hs with rfl | hs
      · refine ⟨s, .head _, hp, fun t ht hq => ?_⟩
        rcases List.mem_cons.1 ht with rfl | ht
        · exact Nat.le_refl _
        · exact absurd ⟨t, ht, hq⟩ hl
      · exact absurd ⟨s, hs, hp⟩ hl
/-- In order, each behind what it uses; the root last. -/
structure Order (m : GM) (root : ByteArray) (out : SL) : Prop where
  nd : out.Nodup
  k : ∀ s ∈ out, s ∈ keys m
  behind : ∀ i, i < out.length → ∀ u ∈ mget m (out.getD i ByteArray.empty), u ∈ out.take i
  pos : 0 < out.length
  last : out.getD (out.length - 1) ByteArray.empty = root
  len : out.length ≤ 20
  par : ∀ s ∈ out, s = root ∨ ∃ p ∈ out, s ∈ mget m p
theorem all_at {n : Nat} {m : GM} {rank : ByteArray → Nat} {M : Nat} (U : Up m rank M) {root : ByteArray} (hr : root ∈ keys m) (hn : 600 < n) (hN : n < 1000000) :
    ∃ out, Order m root out ∧ deps_Graph_All n (((), root, ()), (((), ()), m, ())) = some (((((), ()), (ErrV.nil, ()), ()), ()), (((), ()), m, out, ())) := by
  obtain ⟨n, rfl⟩ : ∃ q, n = q + 1 := ⟨n - 1, by omega⟩
  obtain ⟨names, hNm, he⟩ := reach_at (n := n) U hr (by omega) (by omega)
  have hM := U.M
  have hnl : names.length ≤ 20 := Nat.le_trans (nodup_len hNm.nd hNm.k) U.len
  obtain ⟨out, hI, hlen, hA⟩ := all_loop (n := n) (m := m) (names := names) (M := M) (fun s hs => U.few s (hNm.k s hs)) (by omega) (by omega) (by omega)
    (fun out hI hlt => by
      have hex : ∃ s ∈ names, s ∉ out := by
        apply Classical.byContradiction
        intro h
        have := nodup_len hNm.nd (m := out) (fun x hx => by
          apply Classical.byContradiction
          exact fun hx' => h ⟨x, hx, hx'⟩)
        omega
      obtain ⟨s, h1, h2, h3⟩ := top (fun s => s ∉ out) rank hex
      refine ⟨s, h1, ?_⟩
      unfold ready
      rw [Bool.and_eq_true, decide_eq_true_eq, decide_eq_true_eq]
      refine ⟨h2, fun u hu => ?_⟩
      apply Classical.byContradiction
      intro hun
      have := h3 u (hNm.cl s h1 u hu) hun
      have := U.up s (hNm.k s h1) u hu
      omega) names.length n [] ⟨List.nodup_nil, fun s hs => (by cases hs), fun i hi => absurd hi (Nat.not_lt_zero _)⟩ (by simp) (by omega)
  have hall := all_in hI.nodup hI.sub (by omega) hNm.nd
  refine ⟨out, ⟨hI.nodup, fun s hs => hNm.k s (hI.sub s hs), hI.behind, ?_, ?_, by omega, fun s hs => (hNm.par s (hI.sub s hs)).imp id (fun ⟨p, h1, h2⟩ => ⟨p, hall p h1, h2⟩)⟩, ?_⟩
  · have := List.length_pos_of_mem (hall root hNm.rt); exact this
  · obtain ⟨i, hi, hroot⟩ := mem_getD.1 (hall root hNm.rt)
    have claim : ∀ r, ∀ x ∈ names, rank x ≤ r → x ∈ out.take (i + 1) := by
      intro r
      induction r using Nat.strongRecOn with
      | _ r ih =>
        intro x hx hxr
        have hroot' : root ∈ out.take (i + 1) := by
          rw [take_succ out i hi ByteArray.empty, hroot]
          simp
        rcases hNm.par x hx with rfl | ⟨p, hp, hxp⟩
        · exact hroot'
        · have hup := U.up p (hNm.k p hp) x hxp
          have hpt := ih (rank p) (by omega) p hp (Nat.le_refl _)
          obtain ⟨j, hj, hje⟩ := mem_getD.1 hpt
          have hjl : j < i + 1 ∧ j < out.length := by
            rw [List.length_take] at hj
            omega
          have hje' : out.getD j ByteArray.empty = p := by
            rw [← hje]
            simp only [List.getD_eq_getElem?_getD, List.getElem?_take_of_lt hjl.1]
          have := hI.behind j hjl.2 x (by rw [hje']; exact hxp)
          exact List.mem_of_mem_take (i := j) (by rw [List.take_take, Nat.min_eq_left (by omega)]; exact this)
    have hle : names.length ≤ (out.take (i + 1)).length := nodup_len hNm.nd (fun x hx => claim (rank x) x hx (Nat.le_refl _))
    rw [List.length_take] at hle
    have : i = out.length - 1 := by omega
    rw [← this]
    exact hroot
  · rw [deps_Graph_All, he]
    show (if (!(errNil ErrV.nil)) = true then _ else _) = _
    rw [if_neg (by simp [errNil])]
    rw [hA]
theorem Order.cl {m : GM} {root : ByteArray} {out : SL} (h : Order m root out) : ∀ s ∈ out, ∀ u ∈ mget m s, u ∈ out := by
  intro s hs u hu
  obtain ⟨i, hi, rfl⟩ := mem_getD.1 hs
  exact List.mem_of_mem_take (h.behind i hi u hu)
theorem Order.rt {m : GM} {root : ByteArray} {out : SL} (h : Order m root out) : root ∈ out := by
  rw [← h.last]
  exact getD_mem out _ (by have := h.pos; omega) _
theorem Order.sub {m : GM} {rank : ByteArray → Nat} {M : Nat} (U : Up m rank M) {root : ByteArray} {a b : SL} (ha : Order m root a) (hb : Order m root b) : ∀ s ∈ a, s ∈ b := by
  have : ∀ r, ∀ s ∈ a, rank s ≤ r → s ∈ b := by
    intro r
    induction r using Nat.strongRecOn with
    | _ r ih =>
      intro s hs hr
      rcases ha.par s hs with rfl | ⟨p, hp, hsp⟩
      · exact hb.rt
      · have hup := U.up p (ha.k p hp) s hsp
        exact hb.cl p (ih (rank p) (by omega) p hp (Nat.le_refl _)) s hsp
  exact fun s hs => this (rank s) s hs (Nat.le_refl _)
theorem Order.same {m : GM} {rank : ByteArray → Nat} {M : Nat} (U : Up m rank M) {root : ByteArray} {a b : SL} (ha : Order m root a) (hb : Order m root b) : a.length = b.length :=
  Nat.le_antisymm (nodup_len ha.nd (ha.sub U hb)) (nodup_len hb.nd (hb.sub U ha))
/-! ### who uses -/
theorem names_at {n : Nat} {m : GM} {rank : ByteArray → Nat} {M : Nat} (U : Up m rank M) (hn : 3 < n) : deps_Graph_Names n (((), ()), (((), ()), m, ())) = some (((), ()), (((), ()), m, sortS (keys m), ())) := by
  obtain ⟨n, rfl⟩ : ∃ q, n = q + 2 := ⟨n - 2, by omega⟩
  have hl := U.len
  have e : slices_Sorted_47 (n + 1) (((), ()), (((), ()), m, ())) = some (((), ()), (((), ()), m, sortS (keys m), ())) := by
    show sortedSSem _ 9 ty13 false 47 _ = _
    unfold sortedSSem
    rw [if_pos (show wfKeysS (V := List ByteArray) m = true from wf_of U.sz), if_pos (show List.length m ≤ 1099511627776 by simp only [keys, List.length_map] at hl; omega)]
  rw [deps_Graph_Names]
  simp only [maps_Keys_map_string_string_string_string, e]
theorem used_loop {n : Nat} {m : GM} {ks : SL} {x : ByteArray} (hf : ∀ s ∈ ks, (mget m s).length ≤ 20) (hks : ks.length ≤ 20) (hn : 30 < n) (hN : n < 1000000) :
    ∀ d k i (acc : SL), i + d = ks.length → d < k → acc.length ≤ i → ∃ L : SL, (∀ s ∈ acc, s ∈ L) ∧ L.length ≤ 20 ∧ (∀ j, i ≤ j → j < ks.length → x ∈ mget m (ks.getD j ByteArray.empty) → ks.getD j ByteArray.empty ∈ L) ∧
      deps_Graph_Used_l3 n k (((), x, (), (), (ks.length : Int), (i : Int), ()), (((), ()), m, acc, ks, ())) = some (.inl (((), ()), (((), ()), m, L, ()))) := by
  intro d
  induction d with
  | zero =>
    intro k i acc hd hk ha
    obtain ⟨k, rfl⟩ : ∃ q, k = q + 1 := ⟨k - 1, by omega⟩
    refine ⟨acc, fun s h => h, by omega, fun j h1 h2 => by omega, ?_⟩
    rw [deps_Graph_Used_l3, if_neg (by simp; omega)]
  | succ d ih =>
    intro k i acc hd hk ha
    obtain ⟨k, rfl⟩ : ∃ q, k = q + 1 := ⟨k - 1, by omega⟩
    have hi : i < ks.length := by omega
    have hfl := hf _ (getD_mem ks i hi ByteArray.empty)
    have e0 : deps_Graph_Used_l3 n (k + 1) (((), x, (), (), (ks.length : Int), (i : Int), ()), (((), ()), m, acc, ks, ())) =
        (if decide (x ∈ mget m (ks.getD i ByteArray.empty)) = true then (if (acc.length + 1) * 16 ≤ 140737488355328 then deps_Graph_Used_l3 n k (((), x, (), (), (ks.length : Int), ((i + 1 : Nat) : Int), ()), (((), ()), m, acc ++ [ks.getD i ByteArray.empty], ks, ())) else none)
         else deps_Graph_Used_l3 n k (((), x, (), (), (ks.length : Int), ((i + 1 : Nat) : Int), ()), (((), ()), m, acc, ks, ()))) := by
      rw [deps_Graph_Used_l3, if_pos (decide_eq_true (show (i : Int) < (ks.length : Int) by omega)), if_pos (show (0 : Int) ≤ (i : Int) ∧ (i : Int) < (ks.length : Int) by omega), rdT_nat, w64_up i (by omega)]
      have e := contains2_at (n := n) (l := mget m (ks.getD i ByteArray.empty)) x (by omega) (by omega)
      have e' : slices_Contains_string_string_2 n (((mfind (keyEq (.str : Ty)) (List.getD ks i (Ty.dflt .str)) m).getD [], x, ()), ()) = _ := e
      dsimp only
      rw [e']
      rfl
    rw [e0]
    by_cases hx : x ∈ mget m (ks.getD i ByteArray.empty)
    · rw [if_pos (decide_eq_true hx), if_pos (by omega)]
      obtain ⟨L, h1, h2, h3, h4⟩ := ih k (i + 1) (acc ++ [ks.getD i ByteArray.empty]) (by omega) (by omega) (by simp; omega)
      refine ⟨L, fun s hs => h1 s (List.mem_append.2 (.inl hs)), h2, fun j hj1 hj2 hj3 => ?_, h4⟩
      by_cases e : j = i
      · rw [e]; exact h1 _ (by simp)
      · exact h3 j (by omega) hj2 hj3
    · rw [if_neg (by simpa using hx)]
      obtain ⟨L, h1, h2, h3, h4⟩ := ih k (i + 1) acc (by omega) (by omega) (by omega)
      refine ⟨L, h1, h2, fun j hj1 hj2 hj3 => ?_, h4⟩
      by_cases e : j = i
      · rw [e] at hj3; exact absurd hj3 hx
      · exact h3 j (by omega) hj2 hj3
theorem used_at {n : Nat} {m : GM} {rank : ByteArray → Nat} {M : Nat} (U : Up m rank M) (x : ByteArray) (hn : 50 < n) (hN : n < 1000000) :
    ∃ L : SL, L.length ≤ 20 ∧ (∀ s ∈ keys m, x ∈ mget m s → s ∈ L) ∧ deps_Graph_Used n (((), x, ()), (((), ()), m, ())) = some (((), ()), (((), ()), m, L, ())) := by
  obtain ⟨n, rfl⟩ : ∃ q, n = q + 1 := ⟨n - 1, by omega⟩
  have hp := sortS_perm (keys m)
  have hM := U.M
  have hl : (sortS (keys m)).length ≤ 20 := by rw [hp.length_eq]; exact U.len
  obtain ⟨L, _, h2, h3, h4⟩ := used_loop (n := n) (m := m) (ks := sortS (keys m)) (x := x) (fun s hs => Nat.le_trans (U.few s (hp.mem_iff.1 hs)) hM) hl (by omega) (by omega) (sortS (keys m)).length n 0 [] (by omega) (by omega) (by simp)
  refine ⟨L, h2, fun s hs hx => ?_, ?_⟩
  · obtain ⟨j, hj, rfl⟩ := mem_getD.1 (hp.mem_iff.2 hs)
    exact h3 j (Nat.zero_le _) hj hx
  · rw [deps_Graph_Used, names_at U (by omega)]
    show (match deps_Graph_Used_l3 n n (((), x, (), (), ((sortS (keys m)).length : Int), ((0 : Nat) : Int), ()), (((), ()), m, [], sortS (keys m), ())) with | some (.inl ((_, _), ((_, _), m5, l6, _))) => some (((), ()), (((), ()), m5, l6, ())) | some (.inr (_)) => none | none => none) = _
    rw [h4]
theorem uses_at {n : Nat} {m : GM} (x : ByteArray) (hl : (mget m x).length ≤ 20) (hn : 3 < n) : deps_Graph_Uses n (((), x, ()), (((), ()), m, ())) = some (((), ()), (((), ()), m, mget m x, ())) := by
  obtain ⟨n, rfl⟩ : ∃ q, n = q + 2 := ⟨n - 2, by omega⟩
  rw [deps_Graph_Uses]
  have e : slices_Clone_string_string (n + 1) ((mget m x, ()), ()) = some (((), ()), (mget m x, ())) := by
    rw [slices_Clone_string_string, if_pos (by simp only [List.length_nil]; omega)]
  have e' : slices_Clone_string_string (n + 1) (((mfind (keyEq (.str : Ty)) x m).getD [], ()), ()) = _ := e
  dsimp only
  rw [e']
end Go.Proofs.YtkmeghmhgbbmhaaDoor.Pure
