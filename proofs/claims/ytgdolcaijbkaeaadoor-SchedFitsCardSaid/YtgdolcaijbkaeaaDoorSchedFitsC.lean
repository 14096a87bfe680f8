/- SchedFits, in plain words: who gives each name, and the order. By this session. -/
import Derived.Test.YtgdolcaijbkaeaaDoorSchedFitsB
namespace Go.Proofs.YtgdolcaijbkaeaaDoor.Pure
open Go Go.Proofs.YtgdolcaijbkaeaaDoor.Cm
open Classical
set_option linter.unusedVariables false
set_option maxRecDepth 100000
abbrev GM := List (ByteArray × Int)
abbrev fd (s : ByteArray) (m : GM) : Option Int := mfind (keyEq (.str : Ty)) s m
structure Giv (l : List PL) (i j : Nat) (m : GM) : Prop where
  back : ∀ s v, fd s m = some v → ∃ g : Nat, v = (g : Int) ∧ g < l.length ∧ s ∈ leftOf (E l g)
  old : ∀ g, g < i → ∀ s ∈ leftOf (E l g), fd s m = some (g : Int)
  now : ∀ s ∈ (leftOf (E l i)).take j, fd s m = some (i : Int)
theorem giv_set {l : List PL} {i j : Nat} {m : GM} (h : Giv l i j m) (hi : i < l.length) (hj : j < (leftOf (E l i)).length) (hv : ∀ v, fd ((leftOf (E l i)).getD j ByteArray.empty) m = some v → v = (i : Int)) :
    Giv l i (j + 1) (mset (keyEq (.str : Ty)) ((leftOf (E l i)).getD j ByteArray.empty) (i : Int) m) := by
  have hs : (leftOf (E l i)).getD j ByteArray.empty ∈ leftOf (E l i) := getD_mem _ j hj _
  generalize e : (leftOf (E l i)).getD j ByteArray.empty = s at hv hs ⊢
  refine ⟨fun x v hx => ?_, fun g hg x hx => ?_, fun x hx => ?_⟩
  · unfold fd at hx
    rw [mfind_mset] at hx
    by_cases hxs : x = s
    · rw [if_pos hxs] at hx
      exact ⟨i, (Option.some.inj hx).symm, hi, hxs ▸ hs⟩
    · rw [if_neg hxs] at hx
      exact h.back x v hx
  · unfold fd
    rw [mfind_mset]
    by_cases hxs : x = s
    · subst hxs
      have h1 := h.old g hg x hx
      have h2 := hv _ h1
      omega
    · rw [if_neg hxs]
      exact h.old g hg x hx
  · unfold fd
    rw [mfind_mset]
    by_cases hxs : x = s
    · rw [if_pos hxs]
    · rw [if_neg hxs]
      rw [take_succ _ j hj ByteArray.empty, e] at hx
      rcases List.mem_append.1 hx with hx | hx
      · exact h.now x hx
      · exact absurd (List.mem_singleton.1 hx) hxs
theorem giv_next {l : List PL} {i j : Nat} {m : GM} (h : Giv l i j m) (hj : j = (leftOf (E l i)).length) : Giv l (i + 1) 0 m :=
  ⟨h.back, fun g hg s hs => by
    by_cases e : g = i
    · subst e
      exact h.now s (by rw [hj, List.take_length]; exact hs)
    · exact h.old g (by omega) s hs, fun s hs => by simp at hs⟩
theorem g6_at {n : Nat} {l : List PL} {i : Nat} (hi : i < l.length) (hs : Small (E l i)) : ∀ d k j (m : GM), j + d = (leftOf (E l i)).length → d < k → Giv l i j m →
    (∃ m', Giv l (i + 1) 0 m' ∧ sched_givers_2_l6 n k (((), (i : Int), l, (l.length : Int), (i : Int), leftOf (E l i), ((leftOf (E l i)).length : Int), (j : Int), ()), (m, ())) = some (.inl (((), l, (l.length : Int), (i : Int), ()), (m', ())))) ∨
    sched_givers_2_l6 n k (((), (i : Int), l, (l.length : Int), (i : Int), leftOf (E l i), ((leftOf (E l i)).length : Int), (j : Int), ()), (m, ())) = some (.inr (.inl (((), ErrV.at_ (i : Int) (ErrV.sent 110), ()), ()))) := by
  have hlen := hs.1
  intro d
  induction d with
  | zero =>
    intro k j m hj hk hm
    obtain ⟨k, rfl⟩ : ∃ q, k = q + 1 := ⟨k - 1, by omega⟩
    obtain rfl : j = (leftOf (E l i)).length := by omega
    exact .inl ⟨m, giv_next hm rfl, by rw [sched_givers_2_l6, if_neg (by simp)]⟩
  | succ d ih =>
    intro k j m hj hk hm
    obtain ⟨k, rfl⟩ : ∃ q, k = q + 1 := ⟨k - 1, by omega⟩
    have go : ∀ hv : (∀ v, fd ((leftOf (E l i)).getD j ByteArray.empty) m = some v → v = (i : Int)), _ := fun hv => ih k (j + 1) _ (by omega) (by omega) (giv_set hm hi (by omega) hv)
    rw [sched_givers_2_l6, if_pos (decide_eq_true (show (j : Int) < ((leftOf (E l i)).length : Int) by omega)), if_pos (show (0 : Int) ≤ (j : Int) ∧ (j : Int) < ((leftOf (E l i)).length : Int) by omega), rdT_nat, w64_up j (by omega)]
    dsimp only
    have e0 : (Ty.dflt (.str : Ty)) = ByteArray.empty := rfl
    rw [e0]
    cases e : fd ((leftOf (E l i)).getD j ByteArray.empty) m with
    | none =>
      have e' : mfind (keyEq (.str : Ty)) ((leftOf (E l i)).getD j ByteArray.empty) m = none := e
      rw [if_neg (by rw [e']; simp)]
      exact go (fun v hv => by rw [e] at hv; cases hv)
    | some v =>
      have e' : mfind (keyEq (.str : Ty)) ((leftOf (E l i)).getD j ByteArray.empty) m = some v := e
      rw [if_pos (by rw [e']; rfl), e', Option.getD_some]
      by_cases hvi : v = (i : Int)
      · rw [if_neg (by rw [hvi]; simp)]
        exact go (fun w hw => by rw [e] at hw; rw [← Option.some.inj hw]; exact hvi)
      · rw [if_pos (by simpa using hvi)]
        exact .inr rfl
theorem g3_at {n : Nat} {l : List PL} (hn : 1000 < n) (hl : l.length ≤ 30) (hs : ∀ i, i < l.length → Small (E l i)) : ∀ d k i (m : GM), i + d = l.length → d < k → Giv l i 0 m →
    (∃ m', Giv l l.length 0 m' ∧ sched_givers_2_l3 n k (((), l, (l.length : Int), (i : Int), ()), (m, ())) = some (.inl (((), ()), (m', ())))) ∨
    ∃ j : Int, sched_givers_2_l3 n k (((), l, (l.length : Int), (i : Int), ()), (m, ())) = some (.inr (.inl (((), ErrV.at_ j (ErrV.sent 110), ()), ()))) := by
  intro d
  induction d with
  | zero =>
    intro k i m hi hk hm
    obtain ⟨k, rfl⟩ : ∃ q, k = q + 1 := ⟨k - 1, by omega⟩
    obtain rfl : i = l.length := by omega
    exact .inl ⟨m, hm, by rw [sched_givers_2_l3, if_neg (by simp)]⟩
  | succ d ih =>
    intro k i m hi hk hm
    obtain ⟨k, rfl⟩ : ∃ q, k = q + 1 := ⟨k - 1, by omega⟩
    have hsi := hs i (by omega)
    have h20 := hsi.1
    rw [sched_givers_2_l3, if_pos (decide_eq_true (show (i : Int) < (l.length : Int) by omega)), if_pos (show (0 : Int) ≤ (i : Int) ∧ (i : Int) < (l.length : Int) by omega)]
    rcases g6_at (n := n) (show i < l.length by omega) hsi (leftOf (E l i)).length n 0 m (by omega) (by omega) hm with ⟨m', h1, h2⟩ | h2
    · have h2' : sched_givers_2_l6 n n (((), (i : Int), l, (l.length : Int), (i : Int), (rdT ty0 l (i : Int)).1, (((rdT ty0 l (i : Int)).1).length : Int), 0, ()), (m, ())) = _ := h2
      rw [h2']
      dsimp only
      rw [w64_up i (by omega)]
      exact ih k (i + 1) m' (by omega) (by omega) h1
    · have h2' : sched_givers_2_l6 n n (((), (i : Int), l, (l.length : Int), (i : Int), (rdT ty0 l (i : Int)).1, (((rdT ty0 l (i : Int)).1).length : Int), 0, ()), (m, ())) = _ := h2
      rw [h2']
      exact .inr ⟨_, rfl⟩
theorem givers_at {n : Nat} {l : List PL} (hn : 1001 < n) (hl : l.length ≤ 30) (hs : ∀ i, i < l.length → Small (E l i)) :
    (∃ m, Giv l l.length 0 m ∧ sched_givers_2 n ((l, ()), ()) = some (.inl (((((), ()), (ErrV.nil, ()), ()), ()), (m, ())))) ∨
    ∃ j : Int, sched_givers_2 n ((l, ()), ()) = some (.inr ((((((), ()), (ErrV.at_ j (ErrV.sent 110), ()), ()), ()), ()))) := by
  obtain ⟨n, rfl⟩ : ∃ q, n = q + 1 := ⟨n - 1, by omega⟩
  rw [sched_givers_2]
  rcases g3_at (n := n) (by omega) hl hs l.length n 0 [] (by omega) (by omega) ⟨fun s v h => (by cases h), fun g hg => absurd hg (Nat.not_lt_zero _), fun s hs => by simp at hs⟩ with ⟨m, h1, h2⟩ | ⟨j, h2⟩
  · have h2' : sched_givers_2_l3 n n (((), l, (l.length : Int), 0, ()), ([], ())) = _ := h2
    rw [h2']
    exact .inl ⟨m, h1, rfl⟩
  · have h2' : sched_givers_2_l3 n n (((), l, (l.length : Int), 0, ()), ([], ())) = _ := h2
    rw [h2']
    exact .inr ⟨j, rfl⟩
theorem giv_uniq {l : List PL} {m : GM} (h : Giv l l.length 0 m) {g g' : Nat} (h1 : g < l.length) (h2 : g' < l.length) {s : ByteArray} (h3 : s ∈ leftOf (E l g)) (h4 : s ∈ leftOf (E l g')) : g = g' := by
  have e1 := h.old g h1 s h3
  have e2 := h.old g' h2 s h4
  rw [e1] at e2
  have := Option.some.inj e2
  omega
/-! ### is it ready? -/
def blk (m : GM) (dn : List Bool) (s : ByteArray) : Bool := match fd s m with | some v => !(rdT (.bool : Ty) dn v) | none => false
theorem o11_at {n : Nat} {l : List PL} {m : GM} {dn : List Bool} (hm : Giv l l.length 0 m) (hd : dn.length = l.length) (s : ByteArray) (hn : 0 < n) :
    sched_Order_1_1 n ((s, (), (), ()), (((), ()), ((), ()), m, dn, ())) = some ((blk m dn s, ()), (((), ()), ((), ()), m, dn, ())) := by
  obtain ⟨n, rfl⟩ : ∃ q, n = q + 1 := ⟨n - 1, by omega⟩
  rw [sched_Order_1_1]
  unfold blk
  cases e : fd s m with
  | none =>
    have e' : mfind (keyEq (.str : Ty)) s m = none := e
    rw [if_neg (by rw [e']; simp)]
  | some v =>
    obtain ⟨g, rfl, hg, _⟩ := hm.back s v e
    have e' : mfind (keyEq (.str : Ty)) s m = some (g : Int) := e
    dsimp only
    rw [if_pos (by rw [e']; rfl), e', Option.getD_some, if_pos (by omega)]
theorem of_at {n : Nat} {l : List PL} {m : GM} {dn : List Bool} (hm : Giv l l.length 0 m) (hd : dn.length = l.length) {L : SL} (hL : L.length ≤ 30) (hn : 100 < n) :
    ∃ b, slices_ContainsFunc_string_string n ((L, (), ()), (((), ()), ((), ()), m, dn, ())) = some ((b, ()), (((), ()), ((), ()), m, dn, ())) ∧ (b = false → ∀ s ∈ L, blk m dn s = false) := by
  obtain ⟨n, rfl⟩ : ∃ q, n = q + 1 := ⟨n - 1, by omega⟩
  obtain ⟨n, rfl⟩ : ∃ q, n = q + 1 := ⟨n - 1, by omega⟩
  have h := scan (len := L.length) (F := fun k i => slices_IndexFunc_string_string_l2 n k ((L, (), (L.length : Int), (i : Int), ()), (((), ()), ((), ()), m, dn, ()))) (p := fun i => blk m dn (L.getD i ByteArray.empty)) (found := fun i => some (.inr (.inl (((i : Int), ()), (((), ()), ((), ()), m, dn, ()))))) (miss := some (.inl ((), (((), ()), ((), ()), m, dn, ()))))
    (fun k i hi => by
      show slices_IndexFunc_string_string_l2 n (k + 1) _ = _
      have e0 : rdT (.str : Ty) L (i : Int) = L.getD i ByteArray.empty := rfl
      rw [slices_IndexFunc_string_string_l2, if_pos (decide_eq_true (show (i : Int) < (L.length : Int) by omega)), if_pos (show (0 : Int) ≤ (i : Int) ∧ (i : Int) < (L.length : Int) by omega), e0, o11_at hm hd _ (by omega)]
      dsimp only
      rw [w64_up i (by omega)])
    (fun k => by
      show slices_IndexFunc_string_string_l2 n (k + 1) _ = _
      rw [slices_IndexFunc_string_string_l2, if_neg (by simp)]) L.length n 0 (by omega) (by omega)
  rw [slices_ContainsFunc_string_string, slices_IndexFunc_string_string]
  rcases h with ⟨j, _, h2, h3, h4⟩ | ⟨h3, h4⟩
  · have h4' : slices_IndexFunc_string_string_l2 n n ((L, (), (L.length : Int), 0, ()), (((), ()), ((), ()), m, dn, ())) = _ := h4
    rw [h4']
    exact ⟨true, by dsimp only; rw [decide_eq_true (show (j : Int) ≥ 0 by omega)], fun h => by cases h⟩
  · have h4' : slices_IndexFunc_string_string_l2 n n ((L, (), (L.length : Int), 0, ()), (((), ()), ((), ()), m, dn, ())) = _ := h4
    rw [h4']
    refine ⟨false, rfl, fun _ s hs => ?_⟩
    obtain ⟨j, hj, rfl⟩ := mem_getD.1 hs
    exact h3 j (Nat.zero_le _) hj
theorem o1_at {n : Nat} {l : List PL} {m : GM} {dn : List Bool} (hm : Giv l l.length 0 m) (hd : dn.length = l.length) {p : PL} (hp : Small p) (hn : 200 < n) :
    ∃ b, sched_Order_1 n ((tp p, (), (), ()), (((), ()), ((), ()), m, dn, ())) = some ((b, ()), (((), ()), ((), ()), m, dn, ())) ∧ (b = true → ∀ s ∈ need p, ∀ g : Nat, fd s m = some (g : Int) → dn.getD g false = true) := by
  obtain ⟨n, rfl⟩ : ∃ q, n = q + 1 := ⟨n - 1, by omega⟩
  obtain ⟨b, h1, h2⟩ := of_at hm hd (need_len p) (show 100 < n by omega)
  refine ⟨!b, ?_, fun hb s hs g hg => ?_⟩
  · rw [sched_Order_1, need_at hp (by omega)]
    dsimp only
    rw [h1]
  · have := h2 (by simpa using hb) s hs
    unfold blk at this
    rw [hg] at this
    have h : (!dn.getD g false) = false := this
    simpa using h
end Go.Proofs.YtgdolcaijbkaeaaDoor.Pure
