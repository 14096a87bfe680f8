/- DepsSays, in plain words: how deep, both ways. By this session. -/
import Derived.Test.YtnajjhjbkanigaaDoorDepsSaysI
namespace Go.Proofs.YtnajjhjbkanigaaDoor.Pure
open Go Go.Proofs.YtnajjhjbkanigaaDoor.Cm
open Classical
set_option linter.unusedVariables false
set_option linter.unusedSimpArgs false
set_option maxRecDepth 100000
theorem mx_le {a b c : Int} (h1 : 0 ≤ a) (h2 : a ≤ c) (h3 : b ≤ c) : 0 ≤ mx a b ∧ mx a b ≤ c := by
  unfold mx
  split <;> omega
/-- What is reckoned of a name. -/
def Deep (l : List NodeT) (i : Nat) (s : ByteArray) (v : Int) : Prop := 1 ≤ v ∧ v ≤ (i : Int) + 1 ∧ ∀ n, 400 + i < n → n < 4000000000000000000 → ref16_Depth n ((s, l, ()), ()) = some ((v, ()), ())
structure DI (l : List NodeT) (al : SL) (i : Nat) (d : DM) : Prop where
  has : ∀ j, j < i → ∃ v, Deep l j (al.getD j (Ty.dflt .str)) v ∧ mfind kst (al.getD j (Ty.dflt .str)) d = some v
  no : ∀ s, s ∉ al.take i → mfind kst s d = none
theorem depth_in {n : Nat} {l : List NodeT} {al us : SL} {i : Nat} {d0 : DM} (hI : DI l al i d0) (root s : ByteArray) (x3 x4 : Int) (hu : us.length ≤ 30) (hs : s ∉ al.take i) (hus : ∀ u ∈ us, ∃ j, j < i ∧ al.getD j (Ty.dflt .str) = u) (hut : ∀ u ∈ us, u ∈ al.take i) :
    ∀ q t (d : DM) (c : Int), t + q = us.length → (∀ x, x ≠ s → mfind kst x d = mfind kst x d0) → (mfind kst s d).getD 0 = c → 0 ≤ c → c ≤ (i : Int) → ∃ (d' : DM) (c' : Int), (∀ x, x ≠ s → mfind kst x d' = mfind kst x d0) ∧ (mfind kst s d').getD 0 = c' ∧ 0 ≤ c' ∧ c' ≤ (i : Int) ∧
      (∀ k (m : GM), q < k → deps_Graph_Depth_l9 n k (((), root, (), s, (), x3, x4, us, (us.length : Int), (t : Int), ()), (((), ()), m, d, al, ())) = some (.inl (((), root, (), s, (), x3, x4, ()), (((), ()), m, d', al, ())))) ∧
      (∀ n2 k, q < k → 400 + i ≤ n2 → n2 < 4000000000000000000 → ref16_Depth_l4 n2 (ref16_Depth n2) k ((l, c, us, (t : Int), ()), ()) = some (.inl ((c', ()), ()))) := by
  intro q
  induction q with
  | zero =>
    intro t d c ht hd hc h0 h1
    refine ⟨d, c, hd, hc, h0, h1, fun k m hk => ?_, fun n2 k hk hn hN => ?_⟩
    · obtain ⟨k, rfl⟩ : ∃ q, k = q + 1 := ⟨k - 1, by omega⟩
      rw [deps_Graph_Depth_l9, if_neg (by simp; omega)]
    · obtain ⟨k, rfl⟩ : ∃ q, k = q + 1 := ⟨k - 1, by omega⟩
      rw [ref16_Depth_l4, if_neg (by simp; omega)]
  | succ q ih =>
    intro t d c ht hd hc h0 h1
    have hmem : us.getD t (Ty.dflt .str) ∈ us := getD_mem us t (by omega) _
    obtain ⟨j, hj, hju⟩ := hus _ hmem
    obtain ⟨v, ⟨v1, v2, v3⟩, v4⟩ := hI.has j hj
    rw [hju] at v3 v4
    have hne : us.getD t (Ty.dflt .str) ≠ s := fun e => hs (e ▸ hut _ hmem)
    obtain ⟨m1, m2⟩ := mx_le (a := c) (b := v) (c := (i : Int)) h0 h1 (by omega)
    have hb : 0 ≤ (t : Int) ∧ (t : Int) < (us.length : Int) := ⟨by omega, by omega⟩
    obtain ⟨d', c', a1, a2, a3, a4, a5, a6⟩ := ih (t + 1) (mset kst s (mx c v) d) (mx c v) (by omega) (fun x hx => by rw [mfind_mset, if_neg hx]; exact hd x hx) (by rw [mfind_mset, if_pos rfl]; rfl) m1 m2
    refine ⟨d', c', a1, a2, a3, a4, fun k m hk => ?_, fun n2 k hk hn hN => ?_⟩
    · obtain ⟨k, rfl⟩ : ∃ q, k = q + 1 := ⟨k - 1, by omega⟩
      rw [deps_Graph_Depth_l9, if_pos (decide_eq_true hb.2), if_pos hb, w64_up t (by omega), rdT_nat]
      simp only []
      rw [show (mfind (keyEq (.str : Ty)) s d).getD 0 = c from hc, show mfind (keyEq (.str : Ty)) (us.getD t (Ty.dflt .str)) d = some v from by rw [← v4]; exact hd _ hne]
      exact a5 k m (by omega)
    · obtain ⟨k, rfl⟩ : ∃ q, k = q + 1 := ⟨k - 1, by omega⟩
      rw [ref16_Depth_l4, if_pos (decide_eq_true hb.2), if_pos hb, show ref16_Depth n2 ((rdT (.str : Ty) us (t : Int), l, ()), ()) = _ from v3 n2 (by omega) hN]
      simp only []
      rw [w64_up t (by omega)]
      exact a6 n2 k (by omega) hn hN
theorem depth_out {n : Nat} {l : List NodeT} (h : Ok l) {al : SL} (root : ByteArray) (hO : Ord (gOf l) al) (ha : al.length ≤ 16) (hdom : ∀ s ∈ al, s ∈ l.map (·.1)) (hn : 40 < n) :
    ∀ q k i (d : DM), i + q = al.length → q < k → DI l al i d → ∃ d', DI l al al.length d' ∧ deps_Graph_Depth_l6 n k (((), root, (), (), (al.length : Int), (i : Int), ()), (((), ()), mapOf l, d, al, ())) = some (.inl ((root, (), ()), (((), ()), mapOf l, d', ()))) := by
  intro q
  induction q with
  | zero =>
    intro k i d hi hk hI
    obtain ⟨k, rfl⟩ : ∃ q, k = q + 1 := ⟨k - 1, by omega⟩
    obtain rfl : i = al.length := by omega
    exact ⟨d, hI, by rw [deps_Graph_Depth_l6, if_neg (by simp)]⟩
  | succ q ih =>
    intro k i d hi hk hI
    obtain ⟨k, rfl⟩ : ∃ q, k = q + 1 := ⟨k - 1, by omega⟩
    have hil : i < al.length := by omega
    have hmem : al.getD i (Ty.dflt .str) ∈ al := getD_mem al i hil _
    have htk := take_succ al i hil (Ty.dflt .str)
    have hs : al.getD i (Ty.dflt .str) ∉ al.take i := fun e => by
      have h2 : (al.take (i + 1)).Nodup := List.Sublist.nodup (List.take_sublist _ _) hO.nd
      rw [htk, List.nodup_append] at h2
      exact h2.2.2 _ e _ (List.mem_singleton.2 rfl) rfl
    have hin : ∀ u, u ∈ al.take i → ∃ j, j < i ∧ al.getD j (Ty.dflt .str) = u := fun u hu => by
      obtain ⟨j, hj, rfl⟩ := List.mem_iff_getElem.1 hu
      rw [List.length_take] at hj
      refine ⟨j, by omega, ?_⟩
      rw [List.getElem_take, List.getD_eq_getElem?_getD, List.getElem?_eq_getElem (show j < al.length by omega)]
      rfl
    rcases look (n := 1000) h (by omega) (al.getD i (Ty.dflt .str)) with ⟨g1, _⟩ | ⟨_, v, _, g1, v1, _, _⟩
    · have := (h.g.dom _).2 (hdom _ hmem)
      rw [g1] at this
      cases this
    have hus := hO.us i hil
    rw [g1] at hus
    obtain ⟨d', c', a1, a2, a3, a4, a5, a6⟩ := depth_in (n := n) hI root (al.getD i (Ty.dflt .str)) (al.length : Int) (i : Int) (us := v) v1 hs (fun u hu => hin u (hus u hu)) (fun u hu => hus u hu) v.length 0 d 0 (by omega) (fun _ _ => rfl) (by rw [hI.no _ hs]; rfl) (by omega) (by omega)
    have hw : IntKind.i64.wrap (c' + 1) = c' + 1 := w64_id (by omega) (by omega)
    have hdeep : Deep l i (al.getD i (Ty.dflt .str)) (c' + 1) := by
      refine ⟨by omega, by omega, fun n2 hn2 hN2 => ?_⟩
      obtain ⟨n2, rfl⟩ : ∃ q, n2 = q + 1 := ⟨n2 - 1, by omega⟩
      rcases look (n := n2) h (by omega) (al.getD i (Ty.dflt .str)) with ⟨g1', _⟩ | ⟨j, v', j1, g1', _, g2, g3⟩
      · rw [g1] at g1'; cases g1'
      · rw [g1] at g1'
        cases g1'
        rw [ref16_Depth, g2]
        simp only []
        rw [if_pos (show 0 ≤ (j : Int) ∧ (j : Int) < (l.length : Int) from ⟨by omega, by omega⟩), show ref10_Calls n2 _ = _ from g3]
        simp only []
        rw [show ref16_Depth_l4 n2 (ref16_Depth n2) n2 ((l, 0, v, 0, ()), ()) = _ from a6 n2 n2 (by omega) (by omega) (by omega)]
        simp only []
        rw [hw]
    obtain ⟨d2, b1, b2⟩ := ih k (i + 1) (mset kst (al.getD i (Ty.dflt .str)) (c' + 1) d') (by omega) (by omega) ⟨fun j hj => by
      by_cases e : j = i
      · subst e
        exact ⟨c' + 1, hdeep, by rw [mfind_mset, if_pos rfl]⟩
      · obtain ⟨w, w1, w2⟩ := hI.has j (by omega)
        have hne : al.getD j (Ty.dflt .str) ≠ al.getD i (Ty.dflt .str) := fun e2 => hs (by
          rw [← e2, List.getD_eq_getElem?_getD, List.getElem?_eq_getElem (show j < al.length by omega)]
          exact List.mem_iff_getElem.2 ⟨j, by rw [List.length_take]; omega, by rw [List.getElem_take]; rfl⟩)
        exact ⟨w, w1, by rw [mfind_mset, if_neg hne, a1 _ hne]; exact w2⟩, fun s hs2 => by
      rw [htk, List.mem_append, List.mem_singleton, not_or] at hs2
      rw [mfind_mset, if_neg hs2.2, a1 _ hs2.2]
      exact hI.no s hs2.1⟩
    refine ⟨d2, b1, ?_⟩
    rw [deps_Graph_Depth_l6, if_pos (decide_eq_true (show (i : Int) < (al.length : Int) by omega)), if_pos (show 0 ≤ (i : Int) ∧ (i : Int) < (al.length : Int) from ⟨by omega, by omega⟩)]
    simp only []
    rw [rdT_nat, show mfind (keyEq (.str : Ty)) (List.getD al i (Ty.dflt .str)) (mapOf l) = some v from g1]
    simp only [Option.getD_some]
    rw [show deps_Graph_Depth_l9 n n (((), root, (), List.getD al i (Ty.dflt .str), (), (al.length : Int), (i : Int), v, (v.length : Int), 0, ()), (((), ()), mapOf l, d, al, ())) = _ from a5 n (mapOf l) (by omega)]
    simp only []
    rw [show (mfind (keyEq (.str : Ty)) (List.getD al i (Ty.dflt .str)) d').getD 0 = c' from a2, hw, w64_up i (by omega)]
    exact b2
theorem depth_both {l : List NodeT} (h : Ok l) (root : ByteArray) {al : SL} (hO : Ord (gOf l) al) (ha : al.length ≤ 16) (hdom : ∀ s ∈ al, s ∈ l.map (·.1)) (hr : root ∈ al) {n : Nat} (hn : 6000 < n) (hN : n < 4000000000000000000) (hA : deps_Graph_All (n - 1) (((), root, ()), (((), ()), mapOf l, ())) = allA (mapOf l) .nil al) :
    ∃ v : Int, deps_Graph_Depth n (((), root, ()), (((), ()), mapOf l, ())) = some ((v, ()), (((), ()), mapOf l, ())) ∧ ref16_Depth n ((root, l, ()), ()) = some ((v, ()), ()) := by
  obtain ⟨n, rfl⟩ : ∃ q, n = q + 1 := ⟨n - 1, by omega⟩
  obtain ⟨d', b1, b2⟩ := depth_out (n := n) h root hO ha hdom (by omega) al.length n 0 [] (by omega) (by omega) ⟨fun j hj => by omega, fun s _ => rfl⟩
  obtain ⟨j, hj, hjr⟩ := mem_getD.1 hr
  obtain ⟨v, ⟨v1, v2, v3⟩, v4⟩ := b1.has j hj
  rw [show al.getD j (Ty.dflt .str) = root from hjr] at v3 v4
  refine ⟨v, ?_, v3 (n + 1) (by omega) hN⟩
  rw [deps_Graph_Depth, show deps_Graph_All n (((), root, ()), (((), ()), mapOf l, ())) = _ from hA]
  simp only [allA]
  rw [if_neg (by decide), show deps_Graph_Depth_l6 n n (((), root, (), (), (al.length : Int), 0, ()), (((), ()), mapOf l, [], al, ())) = _ from b2]
  simp only []
  rw [show mfind (keyEq (.str : Ty)) root d' = some v from v4]
  rfl
theorem depth_none {l : List NodeT} (root : ByteArray) {e : ErrV} (he : errNil e = false) {n : Nat} (hn : 6000 < n) (hA : deps_Graph_All (n - 1) (((), root, ()), (((), ()), mapOf l, ())) = allA (mapOf l) e []) :
    deps_Graph_Depth n (((), root, ()), (((), ()), mapOf l, ())) = some ((0, ()), (((), ()), mapOf l, ())) := by
  obtain ⟨n, rfl⟩ : ∃ q, n = q + 1 := ⟨n - 1, by omega⟩
  rw [deps_Graph_Depth, show deps_Graph_All n (((), root, ()), (((), ()), mapOf l, ())) = _ from hA]
  simp only [allA]
  rw [if_pos (by rw [he]; rfl)]
end Go.Proofs.YtnajjhjbkanigaaDoor.Pure
