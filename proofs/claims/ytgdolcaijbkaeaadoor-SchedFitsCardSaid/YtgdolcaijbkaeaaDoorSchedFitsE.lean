/- SchedFits, in plain words: the check of an order. By this session. -/
import Derived.Test.YtgdolcaijbkaeaaDoorSchedFitsD
namespace Go.Proofs.YtgdolcaijbkaeaaDoor.Pure
open Go Go.Proofs.YtgdolcaijbkaeaaDoor.Cm
open Classical
set_option linter.unusedVariables false
set_option maxRecDepth 100000
/-- A map of ones. -/
def Known (K : ByteArray → Prop) (m : GM) : Prop := ∀ s, (mfind (keyEq (.str : Ty)) s m).getD 0 = if K s then 1 else 0
theorem known_set {K : ByteArray → Prop} {m : GM} (h : Known K m) (x : ByteArray) : Known (fun s => K s ∨ s = x) (mset (keyEq (.str : Ty)) x 1 m) := by
  intro s
  rw [mfind_mset]
  by_cases e : s = x
  · rw [if_pos e, if_pos (.inr e)]; rfl
  · rw [if_neg e, h s]
    by_cases hk : K s
    · rw [if_pos hk, if_pos (.inl hk)]
    · rw [if_neg hk, if_neg (fun h => h.elim hk e)]
theorem known_iff {K K' : ByteArray → Prop} {m : GM} (h : Known K m) (e : ∀ s, K s ↔ K' s) : Known K' m := by
  have : K = K' := funext fun s => propext (e s)
  exact this ▸ h
theorem mem_take_succ {l : SL} {j : Nat} (hj : j < l.length) (s : ByteArray) : s ∈ l.take (j + 1) ↔ s ∈ l.take j ∨ s = l.getD j ByteArray.empty := by
  rw [take_succ l j hj ByteArray.empty, List.mem_append, List.mem_singleton]
/-- All that is given by the first ones. -/
def Gvn (l : List PL) (i : Nat) (s : ByteArray) : Prop := ∃ g, g < i ∧ s ∈ leftOf (E l g)
theorem k6_at {n : Nat} {l : List PL} {q : List Int} {kn : GM} {i : Nat} (hl : l.length ≤ 30) (hsi : Small (E l i)) : ∀ d k j (m : GM), j + d = (leftOf (E l i)).length → d < k → Known (fun s => Gvn l i s ∨ s ∈ (leftOf (E l i)).take j) m →
    ∃ m', Known (Gvn l (i + 1)) m' ∧ sched_Check_l6 n k (((), l, (), (), l, (l.length : Int), (i : Int), leftOf (E l i), ((leftOf (E l i)).length : Int), (j : Int), ()), (q, ((), ()), ((), ()), m, kn, ())) = some (.inl (((), l, (), (), l, (l.length : Int), (i : Int), ()), (q, ((), ()), ((), ()), m', kn, ()))) := by
  have h20 := hsi.1
  intro d
  induction d with
  | zero =>
    intro k j m hj hk hm
    obtain ⟨k, rfl⟩ : ∃ q, k = q + 1 := ⟨k - 1, by omega⟩
    obtain rfl : j = (leftOf (E l i)).length := by omega
    refine ⟨m, known_iff hm fun s => ?_, by rw [sched_Check_l6, if_neg (by simp)]⟩
    rw [List.take_length]
    constructor
    · rintro (⟨g, hg, h⟩ | h)
      · exact ⟨g, by omega, h⟩
      · exact ⟨i, by omega, h⟩
    · rintro ⟨g, hg, h⟩
      by_cases e : g = i
      · exact .inr (e ▸ h)
      · exact .inl ⟨g, by omega, h⟩
  | succ d ih =>
    intro k j m hj hk hm
    obtain ⟨k, rfl⟩ : ∃ q, k = q + 1 := ⟨k - 1, by omega⟩
    obtain ⟨m', h1, h2⟩ := ih k (j + 1) (mset (keyEq (.str : Ty)) ((leftOf (E l i)).getD j ByteArray.empty) 1 m) (by omega) (by omega) (known_iff (known_set hm _) fun s => by rw [mem_take_succ (by omega)]; exact or_assoc)
    refine ⟨m', h1, ?_⟩
    rw [sched_Check_l6, if_pos (decide_eq_true (show (j : Int) < ((leftOf (E l i)).length : Int) by omega)), if_pos (show (0 : Int) ≤ (j : Int) ∧ (j : Int) < ((leftOf (E l i)).length : Int) by omega), w64_up j (by omega)]
    exact h2
theorem k3_at {n : Nat} {l : List PL} {q : List Int} {kn : GM} (hn : 1000 < n) (hl : l.length ≤ 30) (hs : ∀ i, i < l.length → Small (E l i)) : ∀ d k i (m : GM), i + d = l.length → d < k → Known (Gvn l i) m →
    ∃ m', Known (Gvn l l.length) m' ∧ sched_Check_l3 n k (((), l, (), (), l, (l.length : Int), (i : Int), ()), (q, ((), ()), ((), ()), m, kn, ())) = some (.inl (((), l, (), (), ()), (q, ((), ()), ((), ()), m', kn, ()))) := by
  intro d
  induction d with
  | zero =>
    intro k i m hi hk hm
    obtain ⟨k, rfl⟩ : ∃ q, k = q + 1 := ⟨k - 1, by omega⟩
    obtain rfl : i = l.length := by omega
    exact ⟨m, hm, by rw [sched_Check_l3, if_neg (by simp)]⟩
  | succ d ih =>
    intro k i m hi hk hm
    obtain ⟨k, rfl⟩ : ∃ q, k = q + 1 := ⟨k - 1, by omega⟩
    have hsi := hs i (by omega)
    have h20 := hsi.1
    obtain ⟨m1, h1, h2⟩ := k6_at (n := n) (q := q) (kn := kn) hl hsi (leftOf (E l i)).length n 0 m (by omega) (by omega) (known_iff hm fun s => by simp)
    obtain ⟨m2, h3, h4⟩ := ih k (i + 1) m1 (by omega) (by omega) h1
    refine ⟨m2, h3, ?_⟩
    have h2' : sched_Check_l6 n n (((), l, (), (), l, (l.length : Int), (i : Int), (rdT ty0 l (i : Int)).1, (((rdT ty0 l (i : Int)).1).length : Int), 0, ()), (q, ((), ()), ((), ()), m, kn, ())) = _ := h2
    rw [sched_Check_l3, if_pos (decide_eq_true (show (i : Int) < (l.length : Int) by omega)), if_pos (show (0 : Int) ≤ (i : Int) ∧ (i : Int) < (l.length : Int) by omega), h2']
    dsimp only
    rw [w64_up i (by omega)]
    exact h4
/-! ### is all there? -/
theorem c1_at {n : Nat} {G K : ByteArray → Prop} {m9 m10 : GM} (hg : Known G m9) (hk : Known K m10) (s : ByteArray) (hn : 0 < n) :
    sched_Check_1 n ((s, (), (), ()), (((), ()), ((), ()), m9, m10, ())) = some ((decide (G s ∧ ¬ K s), ()), (((), ()), ((), ()), m9, m10, ())) := by
  obtain ⟨n, rfl⟩ : ∃ q, n = q + 1 := ⟨n - 1, by omega⟩
  rw [sched_Check_1, hg s, hk s]
  by_cases h1 : G s <;> by_cases h2 : K s <;> simp [h1, h2]
theorem cf_at {n : Nat} {G K : ByteArray → Prop} {m9 m10 : GM} (hg : Known G m9) (hk : Known K m10) {L : SL} (hL : L.length ≤ 30) (hn : 100 < n) :
    slices_ContainsFunc_string_string_2 n ((L, (), ()), (((), ()), ((), ()), m9, m10, ())) = some ((decide (∃ s ∈ L, G s ∧ ¬ K s), ()), (((), ()), ((), ()), m9, m10, ())) := by
  obtain ⟨n, rfl⟩ : ∃ q, n = q + 1 := ⟨n - 1, by omega⟩
  obtain ⟨n, rfl⟩ : ∃ q, n = q + 1 := ⟨n - 1, by omega⟩
  have h := scan (len := L.length) (F := fun k i => slices_IndexFunc_string_string_2_l2 n k ((L, (), (L.length : Int), (i : Int), ()), (((), ()), ((), ()), m9, m10, ()))) (p := fun i => decide (G (L.getD i ByteArray.empty) ∧ ¬ K (L.getD i ByteArray.empty))) (found := fun i => some (.inr (.inl (((i : Int), ()), (((), ()), ((), ()), m9, m10, ()))))) (miss := some (.inl ((), (((), ()), ((), ()), m9, m10, ()))))
    (fun k i hi => by
      show slices_IndexFunc_string_string_2_l2 n (k + 1) _ = _
      have e0 : rdT (.str : Ty) L (i : Int) = L.getD i ByteArray.empty := rfl
      rw [slices_IndexFunc_string_string_2_l2, if_pos (decide_eq_true (show (i : Int) < (L.length : Int) by omega)), if_pos (show (0 : Int) ≤ (i : Int) ∧ (i : Int) < (L.length : Int) by omega), e0, c1_at hg hk _ (by omega)]
      dsimp only
      rw [w64_up i (by omega)])
    (fun k => by
      show slices_IndexFunc_string_string_2_l2 n (k + 1) _ = _
      rw [slices_IndexFunc_string_string_2_l2, if_neg (by simp)]) L.length n 0 (by omega) (by omega)
  rw [slices_ContainsFunc_string_string_2, slices_IndexFunc_string_string_2]
  rcases h with ⟨j, _, h2, h3, h4⟩ | ⟨h3, h4⟩
  · have h4' : slices_IndexFunc_string_string_2_l2 n n ((L, (), (L.length : Int), 0, ()), (((), ()), ((), ()), m9, m10, ())) = _ := h4
    rw [h4']
    dsimp only
    rw [decide_eq_true (show (j : Int) ≥ 0 by omega), decide_eq_true ⟨_, getD_mem L j h2 _, of_decide_eq_true h3⟩]
  · have h4' : slices_IndexFunc_string_string_2_l2 n n ((L, (), (L.length : Int), 0, ()), (((), ()), ((), ()), m9, m10, ())) = _ := h4
    rw [h4']
    have : ¬ ∃ s ∈ L, G s ∧ ¬ K s := by
      rintro ⟨s, hs, h⟩
      obtain ⟨j, hj, rfl⟩ := mem_getD.1 hs
      exact of_decide_eq_false (h3 j (Nat.zero_le _) hj) h
    rw [decide_eq_false this]
    rfl
theorem k23_at {n : Nat} {l : List PL} {q : List Int} {m9 : GM} {dn : List Bool} {i : Nat} {x2 x3 : Int} {K : ByteArray → Prop} (hsi : Small (E l i)) : ∀ d k j (m : GM), j + d = (leftOf (E l i)).length → d < k → Known (fun s => K s ∨ s ∈ (leftOf (E l i)).take j) m →
    ∃ m', Known (fun s => K s ∨ s ∈ leftOf (E l i)) m' ∧ sched_Check_l23 n k ((l, (), (), (), (), x2, x3, leftOf (E l i), ((leftOf (E l i)).length : Int), (j : Int), ()), (q, ((), ()), ((), ()), dn, m9, m, ())) = some (.inl ((l, (), (), (), (), x2, x3, ()), (q, ((), ()), ((), ()), dn, m9, m', ()))) := by
  have h20 := hsi.1
  intro d
  induction d with
  | zero =>
    intro k j m hj hk hm
    obtain ⟨k, rfl⟩ : ∃ q, k = q + 1 := ⟨k - 1, by omega⟩
    obtain rfl : j = (leftOf (E l i)).length := by omega
    rw [List.take_length] at hm
    exact ⟨m, hm, by rw [sched_Check_l23, if_neg (by simp)]⟩
  | succ d ih =>
    intro k j m hj hk hm
    obtain ⟨k, rfl⟩ : ∃ q, k = q + 1 := ⟨k - 1, by omega⟩
    obtain ⟨m', h1, h2⟩ := ih k (j + 1) (mset (keyEq (.str : Ty)) ((leftOf (E l i)).getD j ByteArray.empty) 1 m) (by omega) (by omega) (known_iff (known_set hm _) fun s => by rw [mem_take_succ (by omega)]; exact or_assoc)
    refine ⟨m', h1, ?_⟩
    rw [sched_Check_l23, if_pos (decide_eq_true (show (j : Int) < ((leftOf (E l i)).length : Int) by omega)), if_pos (show (0 : Int) ≤ (j : Int) ∧ (j : Int) < ((leftOf (E l i)).length : Int) by omega), w64_up j (by omega)]
    exact h2
/-- What the one at place a needs is given by those ahead of it. -/
def OkAt (l : List PL) (q : NL) (a : Nat) : Prop := ∀ s ∈ need (E l (q.getD a 0)), Gvn l l.length s → ∃ b, b < a ∧ s ∈ leftOf (E l (q.getD b 0))
structure Perm' (l : List PL) (q : NL) : Prop where
  nd : ∀ a b, a < b → b < q.length → q.getD a 0 ≠ q.getD b 0
  rng : ∀ a, a < q.length → q.getD a 0 < l.length
  len : q.length = l.length
def Kn (l : List PL) (q : NL) (a : Nat) (s : ByteArray) : Prop := ∃ b, b < a ∧ s ∈ leftOf (E l (q.getD b 0))
structure Till (l : List PL) (q : NL) (a : Nat) (dn : List Bool) (m10 : GM) : Prop where
  len : dn.length = l.length
  done : ∀ g, dn.getD g false = true → ∃ b, b < a ∧ q.getD b 0 = g
  kn : Known (Kn l q a) m10
theorem k15_at {n : Nat} {l : List PL} {q : NL} {m9 : GM} (hn : 1000 < n) (hl : l.length ≤ 30) (hs : ∀ i, i < l.length → Small (E l i)) (hq : Perm' l q) (hg : Known (Gvn l l.length) m9) : ∀ d k a (dn : List Bool) (m10 : GM), a + d = q.length → d < k → Till l q a dn m10 →
    ((∀ b, a ≤ b → b < q.length → OkAt l q b) ∧ sched_Check_l15 n k ((l, (), (), (), (), (q.length : Int), (a : Int), ()), (ints q, ((), ()), ((), ()), dn, m9, m10, ())) = some (.inl ((), (ints q, ())))) ∨
    ((∃ b, b < q.length ∧ ¬ OkAt l q b) ∧ sched_Check_l15 n k ((l, (), (), (), (), (q.length : Int), (a : Int), ()), (ints q, ((), ()), ((), ()), dn, m9, m10, ())) = some (.inr (.inl ((false, ()), (ints q, ()))))) := by
  have hlen := hq.len
  have hil : (ints q).length = q.length := by simp
  intro d
  induction d with
  | zero =>
    intro k a dn m10 ha hk ht
    obtain ⟨k, rfl⟩ : ∃ q, k = q + 1 := ⟨k - 1, by omega⟩
    obtain rfl : a = q.length := by omega
    exact .inl ⟨fun b h1 h2 => by omega, by rw [sched_Check_l15, if_neg (by simp)]⟩
  | succ d ih =>
    intro k a dn m10 ha hk ht
    obtain ⟨k, rfl⟩ : ∃ q, k = q + 1 := ⟨k - 1, by omega⟩
    have hi := hq.rng a (by omega)
    have e8 : rdT ((.int .i64) : Ty) (ints q) (a : Int) = ((q.getD a 0 : Nat) : Int) := by
      show (ints q).getD a _ = _
      rw [List.getD_eq_getElem?_getD, List.getD_eq_getElem?_getD, List.getElem?_map, List.getElem?_eq_getElem (by omega)]
      rfl
    generalize hie : q.getD a 0 = i at hi e8
    have hsi := hs i hi
    have h20 := hsi.1
    have hdl := ht.len
    have hdi : dn.getD i false = false := by
      cases e : dn.getD i false with
      | false => rfl
      | true =>
        obtain ⟨b, hb, hbi⟩ := ht.done i e
        exact absurd (hbi.trans hie.symm) (hq.nd b a hb (by omega))
    have hdi' : ¬ rdT (.bool : Ty) dn (i : Int) = true := by
      show ¬ dn.getD i false = true
      rw [hdi]; simp
    have en : sched_Needs n ((tp (rdT ty0 l (i : Int)), ()), ()) = _ := need_at hsi (n := n) (by omega)
    rw [sched_Check_l15, if_pos (decide_eq_true (show (a : Int) < (q.length : Int) by omega)), if_pos (show (0 : Int) ≤ (a : Int) ∧ (a : Int) < ((ints q).length : Int) by omega), e8]
    dsimp only
    rw [if_neg (by simp), if_neg (by simp; omega), if_pos (show (0 : Int) ≤ (i : Int) ∧ (i : Int) < (dn.length : Int) by omega), if_neg hdi', if_pos (show (0 : Int) ≤ (i : Int) ∧ (i : Int) < (l.length : Int) by omega), en]
    dsimp only
    rw [cf_at hg ht.kn (need_len _) (by omega)]
    dsimp only
    by_cases hx : ∃ s ∈ need (E l i), Gvn l l.length s ∧ ¬ Kn l q a s
    · rw [decide_eq_true hx, if_pos rfl]
      refine .inr ⟨⟨a, by omega, fun h => ?_⟩, rfl⟩
      obtain ⟨s, h1, h2, h3⟩ := hx
      exact h3 (h s (by rw [hie]; exact h1) h2)
    · rw [decide_eq_false hx, if_neg (by simp), if_pos (show (0 : Int) ≤ (i : Int) ∧ (i : Int) < (dn.length : Int) by omega), if_pos (show (0 : Int) ≤ (i : Int) ∧ (i : Int) < (l.length : Int) by omega)]
      have hok : OkAt l q a := fun s h1 h2 => Classical.byContradiction fun h3 => hx ⟨s, by rw [← hie]; exact h1, h2, h3⟩
      obtain ⟨m11, h1, h2⟩ := k23_at (n := n) (q := ints q) (m9 := m9) (dn := List.set dn i true) (x2 := (q.length : Int)) (x3 := (a : Int)) (K := Kn l q a) hsi (leftOf (E l i)).length n 0 m10 (by omega) (by omega) (known_iff ht.kn fun s => by simp)
      have h2' : sched_Check_l23 n n ((l, (), (), (), (), (q.length : Int), (a : Int), (rdT ty0 l (i : Int)).1, (((rdT ty0 l (i : Int)).1).length : Int), 0, ()), (ints q, ((), ()), ((), ()), List.set dn ((i : Int) : Int).toNat true, m9, m10, ())) = _ := h2
      rw [h2']
      dsimp only
      rw [w64_up a (by omega)]
      have ht' : Till l q (a + 1) (List.set dn i true) m11 := by
        refine ⟨by rw [List.length_set]; exact ht.len, fun g h => ?_, known_iff h1 fun s => ?_⟩
        · rw [getD_set_b dn i g (by omega)] at h
          by_cases e : g = i
          · exact ⟨a, by omega, hie.trans e.symm⟩
          · rw [if_neg e] at h
            obtain ⟨b, hb, hbe⟩ := ht.done g h
            exact ⟨b, by omega, hbe⟩
        · constructor
          · rintro (⟨b, hb, h⟩ | h)
            · exact ⟨b, by omega, h⟩
            · exact ⟨a, by omega, by rw [hie]; exact h⟩
          · rintro ⟨b, hb, h⟩
            by_cases e : b = a
            · subst e; rw [hie] at h; exact .inr h
            · exact .inl ⟨b, by omega, h⟩
      rcases ih k (a + 1) _ m11 (by omega) (by omega) ht' with ⟨h3, h4⟩ | ⟨h3, h4⟩
      · refine .inl ⟨fun b hb1 hb2 => ?_, h4⟩
        by_cases e : b = a
        · exact e ▸ hok
        · exact h3 b (by omega) hb2
      · exact .inr ⟨h3, h4⟩
theorem check_at {n : Nat} {l : List PL} {q : NL} (hn : 1002 < n) (hl : l.length ≤ 30) (hs : ∀ i, i < l.length → Small (E l i)) (hq : Perm' l q) :
    sched_Check n (((), l, ()), (ints q, ())) = some ((decide (∀ b, b < q.length → OkAt l q b), ()), (ints q, ())) := by
  obtain ⟨n, rfl⟩ : ∃ q, n = q + 1 := ⟨n - 1, by omega⟩
  have hil : (ints q).length = q.length := by simp
  have hlen := hq.len
  obtain ⟨m, h1, h2⟩ := k3_at (n := n) (q := ints q) (kn := []) (by omega) hl hs l.length n 0 [] (by omega) (by omega) (fun s => by rw [if_neg (by rintro ⟨g, hg, _⟩; omega)]; rfl)
  have h2' : sched_Check_l3 n n (((), l, (), (), l, (l.length : Int), 0, ()), (ints q, ((), ()), ((), ()), [], [], ())) = _ := h2
  rw [sched_Check, h2']
  dsimp only
  rw [if_neg (by rw [hil, hlen]; simp), if_pos (by omega)]
  have h0 : Till l q 0 (List.replicate l.length false) [] := by
    refine ⟨by simp, fun g hg => ?_, fun s => by rw [if_neg (by rintro ⟨g, hg, _⟩; omega)]; rfl⟩
    rw [List.getD_eq_getElem?_getD, List.getElem?_replicate] at hg
    split at hg <;> simp at hg
  rcases k15_at (n := n) (by omega) hl hs hq h1 q.length n 0 _ [] (by omega) (by omega) h0 with ⟨h3, h4⟩ | ⟨⟨b, hb1, hb2⟩, h4⟩
  · rw [← hil] at h4
    have h4' : sched_Check_l15 n n ((l, (), (), (), (), ((ints q).length : Int), 0, ()), (ints q, ((), ()), ((), ()), List.replicate ((l.length : Int) : Int).toNat false, m, [], ())) = _ := h4
    rw [h4', decide_eq_true (fun b hb => h3 b (Nat.zero_le _) hb)]
  · rw [← hil] at h4
    have h4' : sched_Check_l15 n n ((l, (), (), (), (), ((ints q).length : Int), 0, ()), (ints q, ((), ()), ((), ()), List.replicate ((l.length : Int) : Int).toNat false, m, [], ())) = _ := h4
    rw [h4', decide_eq_false (fun h => hb2 (h b hb1))]
theorem check_no {n : Nat} {l : List PL} {q : List Int} (hn : 1002 < n) (hl : l.length ≤ 30) (hs : ∀ i, i < l.length → Small (E l i)) (hq : q.length ≠ l.length) :
    sched_Check n (((), l, ()), (q, ())) = some ((false, ()), (q, ())) := by
  obtain ⟨n, rfl⟩ : ∃ q, n = q + 1 := ⟨n - 1, by omega⟩
  obtain ⟨m, h1, h2⟩ := k3_at (n := n) (q := q) (kn := []) (by omega) hl hs l.length n 0 [] (by omega) (by omega) (fun s => by rw [if_neg (by rintro ⟨g, hg, _⟩; omega)]; rfl)
  have h2' : sched_Check_l3 n n (((), l, (), (), l, (l.length : Int), 0, ()), (q, ((), ()), ((), ()), [], [], ())) = _ := h2
  rw [sched_Check, h2']
  dsimp only
  rw [if_pos (by rw [bne_iff_ne]; omega)]
/-! ### the same, of a list handed in -/
theorem j6_at {n : Nat} {l : List PL} {q : List Int} {kn : GM} {i : Nat} {x4 x5 : Int} (hsi : Small (E l i)) : ∀ d k j (m : GM), j + d = (leftOf (E l i)).length → d < k →
    ∃ m', sched_Check_2_l6 n k ((q, l, (), (), l, x4, x5, leftOf (E l i), ((leftOf (E l i)).length : Int), (j : Int), ()), (((), ()), ((), ()), m, kn, ())) = some (.inl ((q, l, (), (), l, x4, x5, ()), (((), ()), ((), ()), m', kn, ()))) := by
  have h20 := hsi.1
  intro d
  induction d with
  | zero =>
    intro k j m hj hk
    obtain ⟨k, rfl⟩ : ∃ q, k = q + 1 := ⟨k - 1, by omega⟩
    obtain rfl : j = (leftOf (E l i)).length := by omega
    exact ⟨m, by rw [sched_Check_2_l6, if_neg (by simp)]⟩
  | succ d ih =>
    intro k j m hj hk
    obtain ⟨k, rfl⟩ : ∃ q, k = q + 1 := ⟨k - 1, by omega⟩
    obtain ⟨m', h2⟩ := ih k (j + 1) (mset (keyEq (.str : Ty)) ((leftOf (E l i)).getD j ByteArray.empty) 1 m) (by omega) (by omega)
    refine ⟨m', ?_⟩
    rw [sched_Check_2_l6, if_pos (decide_eq_true (show (j : Int) < ((leftOf (E l i)).length : Int) by omega)), if_pos (show (0 : Int) ≤ (j : Int) ∧ (j : Int) < ((leftOf (E l i)).length : Int) by omega), w64_up j (by omega)]
    exact h2
theorem j3_at {n : Nat} {l : List PL} {q : List Int} {kn : GM} (hn : 1000 < n) (hl : l.length ≤ 30) (hs : ∀ i, i < l.length → Small (E l i)) : ∀ d k i (m : GM), i + d = l.length → d < k →
    ∃ m', sched_Check_2_l3 n k ((q, l, (), (), l, (l.length : Int), (i : Int), ()), (((), ()), ((), ()), m, kn, ())) = some (.inl ((q, l, (), (), ()), (((), ()), ((), ()), m', kn, ()))) := by
  intro d
  induction d with
  | zero =>
    intro k i m hi hk
    obtain ⟨k, rfl⟩ : ∃ q, k = q + 1 := ⟨k - 1, by omega⟩
    obtain rfl : i = l.length := by omega
    exact ⟨m, by rw [sched_Check_2_l3, if_neg (by simp)]⟩
  | succ d ih =>
    intro k i m hi hk
    obtain ⟨k, rfl⟩ : ∃ q, k = q + 1 := ⟨k - 1, by omega⟩
    have hsi := hs i (by omega)
    have h20 := hsi.1
    obtain ⟨m1, h2⟩ := j6_at (n := n) (l := l) (q := q) (kn := kn) (x4 := (l.length : Int)) (x5 := (i : Int)) hsi (leftOf (E l i)).length n 0 m (by omega) (by omega)
    obtain ⟨m2, h4⟩ := ih k (i + 1) m1 (by omega) (by omega)
    refine ⟨m2, ?_⟩
    have h2' : sched_Check_2_l6 n n ((q, l, (), (), l, (l.length : Int), (i : Int), (rdT ty0 l (i : Int)).1, (((rdT ty0 l (i : Int)).1).length : Int), 0, ()), (((), ()), ((), ()), m, kn, ())) = _ := h2
    rw [sched_Check_2_l3, if_pos (decide_eq_true (show (i : Int) < (l.length : Int) by omega)), if_pos (show (0 : Int) ≤ (i : Int) ∧ (i : Int) < (l.length : Int) by omega), h2']
    dsimp only
    rw [w64_up i (by omega)]
    exact h4
theorem check2_no {n : Nat} {l : List PL} {q : List Int} (hn : 1002 < n) (hl : l.length ≤ 30) (hs : ∀ i, i < l.length → Small (E l i)) (hq : q.length ≠ l.length) :
    sched_Check_2 n ((q, l, ()), ()) = some ((false, ()), ()) := by
  obtain ⟨n, rfl⟩ : ∃ q, n = q + 1 := ⟨n - 1, by omega⟩
  obtain ⟨m, h2⟩ := j3_at (n := n) (q := q) (kn := []) (by omega) hl hs l.length n 0 [] (by omega) (by omega)
  have h2' : sched_Check_2_l3 n n ((q, l, (), (), l, (l.length : Int), 0, ()), (((), ()), ((), ()), [], [], ())) = _ := h2
  rw [sched_Check_2, h2']
  dsimp only
  rw [if_pos (by rw [bne_iff_ne]; omega)]
end Go.Proofs.YtgdolcaijbkaeaaDoor.Pure
