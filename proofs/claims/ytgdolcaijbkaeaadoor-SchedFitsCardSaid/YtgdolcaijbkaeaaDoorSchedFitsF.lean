/- SchedFits, in plain words: two neighbours turned round. By this session. -/
import Derived.Test.YtgdolcaijbkaeaaDoorSchedFitsE
namespace Go.Proofs.YtgdolcaijbkaeaaDoor.Pure
open Go Go.Proofs.YtgdolcaijbkaeaaDoor.Cm
open Classical
set_option linter.unusedVariables false
set_option maxRecDepth 100000
theorem getD_el (q : NL) (a : Nat) (h : a < q.length) : q.getD a 0 = q[a] := by
  rw [List.getD_eq_getElem?_getD, List.getElem?_eq_getElem h]; rfl
theorem mem_take_at {q : NL} {a g : Nat} (h : g ∈ q.take a) : ∃ b, b < a ∧ b < q.length ∧ q.getD b 0 = g := by
  obtain ⟨b, hb, e⟩ := List.mem_iff_getElem.1 h
  rw [List.length_take] at hb
  rw [List.getElem_take] at e
  exact ⟨b, by omega, by omega, by rw [getD_el q b (by omega)]; exact e⟩
theorem done_perm {l : List PL} {q : NL} (h : Done l q) : Perm' l q := by
  refine ⟨fun a b hab hb => ?_, fun a ha => h.rng _ (getD_mem q a ha 0), h.len⟩
  rw [getD_el q a (by omega), getD_el q b hb]
  exact List.pairwise_iff_getElem.1 h.nd a b (by omega) hb hab
theorem done_ok {l : List PL} {q : NL} (h : Done l q) : ∀ a, a < q.length → OkAt l q a := by
  rintro a ha s hs ⟨g, hg, hsg⟩
  obtain ⟨b, hb, _, e⟩ := mem_take_at (h.ok a ha s hs g hg hsg)
  exact ⟨b, hb, by rw [e]; exact hsg⟩
def sw (q : NL) (k : Nat) : NL := (q.set k (q.getD (k + 1) 0)).set (k + 1) (q.getD k 0)
theorem sw_len (q : NL) (k : Nat) : (sw q k).length = q.length := by simp [sw]
theorem sw_at (q : NL) (k a : Nat) (hk : k + 1 < q.length) : (sw q k).getD a 0 = if a = k + 1 then q.getD k 0 else if a = k then q.getD (k + 1) 0 else q.getD a 0 := by
  unfold sw
  rw [List.getD_eq_getElem?_getD, List.getElem?_set]
  by_cases h1 : a = k + 1
  · subst h1
    rw [if_pos rfl, if_pos (by simp; omega), if_pos rfl]; rfl
  · rw [if_neg (fun e => h1 e.symm), if_neg h1, List.getElem?_set]
    by_cases h2 : a = k
    · subst h2
      rw [if_pos rfl, if_pos (by omega), if_pos rfl]; rfl
    · rw [if_neg (fun e => h2 e.symm), if_neg h2, ← List.getD_eq_getElem?_getD]
theorem sw_perm {l : List PL} {q : NL} (h : Perm' l q) {k : Nat} (hk : k + 1 < q.length) : Perm' l (sw q k) := by
  refine ⟨fun a b hab hb => ?_, fun a ha => ?_, (sw_len q k).trans h.len⟩
  · rw [sw_len] at hb
    have ne : ∀ x y, x ≠ y → x < q.length → y < q.length → q.getD x 0 ≠ q.getD y 0 := fun x y h1 h2 h3 => by
      rcases Nat.lt_or_gt_of_ne h1 with h4 | h4
      · exact h.nd x y h4 h3
      · exact fun e => h.nd y x h4 h2 e.symm
    rw [sw_at q k a hk, sw_at q k b hk]
    (repeat' split) <;> exact ne _ _ (by omega) (by omega) (by omega)
  · rw [sw_len] at ha
    rw [sw_at q k a hk]
    split
    · exact h.rng k (by omega)
    · split
      · exact h.rng (k + 1) hk
      · exact h.rng a ha
def Hangs (l : List PL) (q : NL) (k : Nat) : Prop := ∃ s ∈ leftOf (E l (q.getD k 0)), s ∈ need (E l (q.getD (k + 1) 0))
theorem sw_ok {l : List PL} {q : NL} (h : Done l q) {k : Nat} (hk : k + 1 < q.length) : (∀ a, a < (sw q k).length → OkAt l (sw q k) a) ↔ ¬ Hangs l q k := by
  have hp := done_perm h
  have ho := done_ok h
  rw [sw_len]
  constructor
  · rintro hs ⟨s, h1, h2⟩
    obtain ⟨b, hb, h3⟩ := hs k (by omega) s (by rw [sw_at q k k hk, if_neg (by omega), if_pos rfl]; exact h2) ⟨_, hp.rng k (by omega), h1⟩
    rw [sw_at q k b hk, if_neg (by omega), if_neg (by omega)] at h3
    exact hp.nd b k hb (by omega) (h.uniq _ _ (hp.rng b (by omega)) (hp.rng k (by omega)) s h3 h1)
  · intro hh a ha s hs hg
    rw [sw_at q k a hk] at hs
    by_cases h1 : a = k + 1
    · rw [if_pos h1] at hs
      obtain ⟨b, hb, h3⟩ := ho k (by omega) s hs hg
      exact ⟨b, by omega, by rw [sw_at q k b hk, if_neg (by omega), if_neg (by omega)]; exact h3⟩
    rw [if_neg h1] at hs
    by_cases h2 : a = k
    · rw [if_pos h2] at hs
      obtain ⟨b, hb, h3⟩ := ho (k + 1) hk s hs hg
      by_cases e : b = k
      · exact absurd ⟨s, e ▸ h3, hs⟩ hh
      · exact ⟨b, by omega, by rw [sw_at q k b hk, if_neg (by omega), if_neg (by omega)]; exact h3⟩
    · rw [if_neg h2] at hs
      obtain ⟨b, hb, h3⟩ := ho a ha s hs hg
      by_cases e1 : b = k
      · exact ⟨k + 1, by omega, by rw [sw_at q k (k + 1) hk, if_pos rfl, ← e1]; exact h3⟩
      · by_cases e2 : b = k + 1
        · exact ⟨k, by omega, by rw [sw_at q k k hk, if_neg (by omega), if_pos rfl, ← e2]; exact h3⟩
        · exact ⟨b, hb, by rw [sw_at q k b hk, if_neg e2, if_neg e1]; exact h3⟩
theorem sw_ints (q : NL) (k : Nat) : List.set (List.set (ints q) k (((q.getD (k + 1) 0 : Nat)) : Int)) (k + 1) ((q.getD k 0 : Nat) : Int) = ints (sw q k) := by
  unfold sw ints
  rw [List.map_set, List.map_set]
  rfl
theorem ints_rd (q : NL) (a : Nat) (ha : a < q.length) : rdT ((.int .i64) : Ty) (ints q) (a : Int) = ((q.getD a 0 : Nat) : Int) := by
  show (ints q).getD a _ = _
  rw [List.getD_eq_getElem?_getD, List.getD_eq_getElem?_getD, List.getElem?_map, List.getElem?_eq_getElem ha]
  rfl
theorem intsl_at {n : Nat} (q : List Int) (hq : q.length ≤ 30) : ∀ d k i, i + d = q.length → d < k →
    ref_Ints_l3 n k (((), (), (i : Int), ()), (q, q.take i, ())) = some (.inl (((), ()), (q, q, ()))) := by
  intro d
  induction d with
  | zero =>
    intro k i hi hk
    obtain ⟨k, rfl⟩ : ∃ q, k = q + 1 := ⟨k - 1, by omega⟩
    obtain rfl : i = q.length := by omega
    rw [ref_Ints_l3, if_neg (by simp), List.take_length]
  | succ d ih =>
    intro k i hi hk
    obtain ⟨k, rfl⟩ : ∃ q, k = q + 1 := ⟨k - 1, by omega⟩
    rw [ref_Ints_l3, if_pos (decide_eq_true (show (i : Int) < (q.length : Int) by omega)), if_pos (show (0 : Int) ≤ (i : Int) ∧ (i : Int) < (q.length : Int) by omega)]
    dsimp only
    rw [if_pos (by simp; omega), w64_up i (by omega)]
    have := ih k (i + 1) (by omega) (by omega)
    rw [take_succ q i (by omega) (Ty.dflt (.int .i64))] at this
    exact this
theorem ints_at {n : Nat} (q : List Int) (hq : q.length ≤ 30) (hn : 100 < n) : ref_Ints n (((), ()), (q, ())) = some (((), ()), (q, q, ())) := by
  obtain ⟨n, rfl⟩ : ∃ q, n = q + 1 := ⟨n - 1, by omega⟩
  have h : ref_Ints_l3 n n (((), (), 0, ()), (q, List.replicate (0 : Int).toNat 0, ())) = _ := intsl_at (n := n) q hq q.length n 0 (by omega) (by omega)
  rw [ref_Ints, if_pos (by omega), h]
theorem number_at {n : Nat} (x : Int) {m : Nat} (hm : 0 < m) (hb : m ≤ 1000) (hn : 0 < n) : ∃ k : Nat, k < m ∧ world_Number n ((x, (m : Int), ()), ()) = some (((k : Int), ()), ()) := by
  obtain ⟨n, rfl⟩ : ∃ q, n = q + 1 := ⟨n - 1, by omega⟩
  obtain ⟨k, hk, e⟩ := num_nat x (show (0 : Int) < (m : Int) by omega)
  have hb := tmod_b x (m : Int) (by omega)
  refine ⟨k, by omega, ?_⟩
  rw [world_Number, if_neg (show ¬ ((m : Int) = 0) by omega)]
  unfold num at e
  by_cases h : Int.tmod x (m : Int) < 0
  · rw [if_pos h] at e
    have hw := w64_id (x := Int.tmod x (m : Int) + (m : Int)) (by omega) (by omega)
    rw [if_pos (decide_eq_true h)]
    dsimp only
    rw [hw, e]
  · rw [if_neg h] at e
    rw [if_neg (by simpa using h), e]
theorem hangs_loop {n : Nat} {l : List PL} {q : NL} {p : List Int} {k0 : Nat} {nd : SL} (hn : 1000 < n) (hnd : nd.length ≤ 30) (hk0 : k0 < q.length) (hi : q.getD k0 0 < l.length) (hs : Small (E l (q.getD k0 0))) : ∀ d k j (h : Bool), j + d = (leftOf (E l (q.getD k0 0))).length → d < k → (h = true ↔ ∃ s ∈ (leftOf (E l (q.getD k0 0))).take j, s ∈ nd) →
    ∃ b, (b = true ↔ ∃ s ∈ leftOf (E l (q.getD k0 0)), s ∈ nd) ∧ law18_SchedFits_l19 n k ((l, (), (k0 : Int), (), (), h, (j : Int), ()), (ints q, p, nd, ())) = some (.inl ((l, (), b, ()), (p, ()))) := by
  have e8 := ints_rd q k0 hk0
  have hil : (ints q).length = q.length := by simp
  have h20 := hs.1
  generalize q.getD k0 0 = i at *
  intro d
  induction d with
  | zero =>
    intro k j h hj hk hh
    obtain ⟨k, rfl⟩ : ∃ q, k = q + 1 := ⟨k - 1, by omega⟩
    obtain rfl : j = (leftOf (E l i)).length := by omega
    rw [List.take_length] at hh
    refine ⟨h, hh, ?_⟩
    rw [law18_SchedFits_l19, if_pos (show (0 : Int) ≤ (k0 : Int) ∧ (k0 : Int) < ((ints q).length : Int) by omega), e8]
    dsimp only
    rw [if_pos (show (0 : Int) ≤ (i : Int) ∧ (i : Int) < (l.length : Int) by omega), if_neg (show ¬ decide ((((leftOf (E l i)).length : Nat) : Int) < (((rdT ty0 l (i : Int)).1).length : Int)) = true by rw [decide_eq_true_eq]; exact Int.lt_irrefl _)]
  | succ d ih =>
    intro k j h hj hk hh
    obtain ⟨k, rfl⟩ : ∃ q, k = q + 1 := ⟨k - 1, by omega⟩
    have hjl : j < (leftOf (E l i)).length := by omega
    have c3 : decide ((j : Int) < (((rdT ty0 l (i : Int)).1).length : Int)) = true := decide_eq_true (by show (j : Int) < ((leftOf (E l i)).length : Int); omega)
    have c4 : 0 ≤ (j : Int) ∧ (j : Int) < (((rdT ty0 l (i : Int)).1).length : Int) := ⟨by omega, of_decide_eq_true c3⟩
    have tk := mem_take_succ (l := leftOf (E l i)) hjl
    cases h with
    | true =>
      obtain ⟨b, h1, h2⟩ := ih k (j + 1) true (by omega) (by omega) ⟨fun _ => by
        obtain ⟨s, h3, h4⟩ := hh.1 rfl
        exact ⟨s, (tk s).2 (.inl h3), h4⟩, fun _ => rfl⟩
      refine ⟨b, h1, ?_⟩
      rw [law18_SchedFits_l19, if_pos (show (0 : Int) ≤ (k0 : Int) ∧ (k0 : Int) < ((ints q).length : Int) by omega), e8]
      dsimp only
      rw [if_pos (show (0 : Int) ≤ (i : Int) ∧ (i : Int) < (l.length : Int) by omega), if_pos c3, if_pos rfl, w64_up j (by omega)]
      exact h2
    | false =>
      have no : ¬ ∃ s ∈ (leftOf (E l i)).take j, s ∈ nd := fun h => by have := hh.2 h; cases this
      have run : ∀ (x : Int) (b : Bool), ref_Among n (((), (leftOf (E l i)).getD j ByteArray.empty, ()), (nd, ())) = some ((x, ()), (nd, ())) → law18_SchedFits_l19 n k ((l, (), (k0 : Int), (), (), decide (x ≥ 0), ((j + 1 : Nat) : Int), ()), (ints q, p, nd, ())) = some (.inl ((l, (), b, ()), (p, ()))) →
          law18_SchedFits_l19 n (k + 1) ((l, (), (k0 : Int), (), (), false, (j : Int), ()), (ints q, p, nd, ())) = some (.inl ((l, (), b, ()), (p, ()))) := by
        intro x b hx h2
        have hx' : ref_Among n (((), rdT (.str : Ty) ((rdT ty0 l (i : Int)).1) (j : Int), ()), (nd, ())) = _ := hx
        rw [law18_SchedFits_l19, if_pos (show (0 : Int) ≤ (k0 : Int) ∧ (k0 : Int) < ((ints q).length : Int) by omega), e8]
        dsimp only
        rw [if_pos (show (0 : Int) ≤ (i : Int) ∧ (i : Int) < (l.length : Int) by omega), if_pos c3, if_neg (by simp), if_pos (show (0 : Int) ≤ (k0 : Int) ∧ (k0 : Int) < ((ints q).length : Int) by omega), if_pos (show (0 : Int) ≤ (i : Int) ∧ (i : Int) < (l.length : Int) by omega), if_pos c4, hx']
        dsimp only
        rw [w64_up j (by omega)]
        exact h2
      rcases among_at (n := n) (l := nd) ((leftOf (E l i)).getD j ByteArray.empty) (by omega) (by omega) with ⟨h3, x, hx⟩ | ⟨h3, hx⟩
      · obtain ⟨b, h1, h2⟩ := ih k (j + 1) (decide (((x : Nat) : Int) ≥ 0)) (by omega) (by omega) ⟨fun _ => ⟨_, (tk _).2 (.inr rfl), h3⟩, fun _ => decide_eq_true (by omega)⟩
        exact ⟨b, h1, run _ b hx h2⟩
      · obtain ⟨b, h1, h2⟩ := ih k (j + 1) (decide ((-1 : Int) ≥ 0)) (by omega) (by omega) ⟨fun h => by simp at h, fun ⟨s, h4, h5⟩ => by
          rcases (tk s).1 h4 with h6 | h6
          · exact absurd ⟨s, h6, h5⟩ no
          · exact absurd (h6 ▸ h5) h3⟩
        exact ⟨b, h1, run _ b hx h2⟩
theorem first_at (m : Nat) : law18_first (m + 100) ((), ()) = some ((true, ()), ()) := by
  rfl
end Go.Proofs.YtgdolcaijbkaeaaDoor.Pure
