/- DepsFits, in plain words: whatever graph it is, what a root uses comes each once, behind all that it uses itself, the root last. By this session. -/
import Derived.Test.YtkmeghmhgbbmhaaDoorDepsFitsE
namespace Go.Proofs.YtkmeghmhgbbmhaaDoor.Pure
open Go Go.Proofs.YtkmeghmhgbbmhaaDoor.Cm
open Classical
set_option linter.unusedVariables false
set_option maxRecDepth 100000
structure MapOk (i : Nat) (mm : GM) (f : Nat → List Nat) : Prop where
  ks : keys mm = (List.range i).map nm
  at_ : ∀ a, a < i → mget mm (nm a) = U (f a)
theorem not_yet {i : Nat} {mm : GM} {f : Nat → List Nat} (h : MapOk i mm f) (hi : i < 17) : nm i ∉ keys mm := by
  rw [h.ks]
  intro hm
  obtain ⟨a, ha, e⟩ := List.mem_map.1 hm
  have ha := List.mem_range.1 ha
  have := nm_inj (by omega) hi e
  omega
theorem new_loop {n : Nat} {l : List ND} {f : Nat → List Nat} {N : Nat} (hN : N ≤ 16) (hn : 40 < n) (hl : Nodes N l f) (hf : ∀ a, a < N → (∀ j ∈ f a, a < j ∧ j < N) ∧ (f a).length ≤ N) :
    ∀ q k i (mm : GM), i + q = N → q < k → MapOk i mm f → ∃ m, MapOk N m f ∧ deps_New_l5 n k (((), (), (N : Int), (i : Int), ()), (l, ((), ()), mm, ())) = some (.inl (((), ()), (l, ((), ()), m, ()))) := by
  intro q
  induction q with
  | zero =>
    intro k i mm hi hk hm
    obtain ⟨k, rfl⟩ : ∃ q, k = q + 1 := ⟨k - 1, by omega⟩
    obtain rfl : i = N := by omega
    exact ⟨mm, hm, by rw [deps_New_l5, if_neg (by simp)]⟩
  | succ q ih =>
    intro k i mm hi hk hm
    obtain ⟨k, rfl⟩ : ∃ q, k = q + 1 := ⟨k - 1, by omega⟩
    have hout := not_yet hm (by omega)
    have hfi := hf i (by omega)
    have e1 : rdT ty0 l (i : Int) = node (nm i) ((f i).map fun j => eqn (nm j)) := hl.at_ i (by omega)
    have e2 := calls_at (n := n) (ks := f i) (nm i) (fun j hj => by have := hfi.1 j hj; omega) (by omega) (by omega)
    obtain ⟨m, h1, h2⟩ := ih k (i + 1) (mset (keyEq (.str : Ty)) (nm i) (U (f i)) mm) (by omega) (by omega)
      ⟨by rw [mset_new hout, List.range_succ, List.map_append, ← hm.ks]; simp [keys], fun a ha => by
        unfold mget
        rw [mfind_mset]
        by_cases e : a = i
        · subst e; rw [if_pos rfl]; rfl
        · rw [if_neg (fun h => e (nm_inj (by omega) (by omega) h))]
          exact hm.at_ a (by omega)⟩
    refine ⟨m, h1, ?_⟩
    have c1 : ¬ (mfind (keyEq (.str : Ty)) ((rdT ty0 l (i : Int)).1) mm).isSome = true := by
      rw [e1, show (node (nm i) ((f i).map fun j => eqn (nm j))).1 = nm i from rfl, mfind_out hout]; simp
    have c2 : scope_Calls n ((((rdT ty0 l (i : Int)).1, ((rdT ty0 l (i : Int)).2).1, (((rdT ty0 l (i : Int)).2).2).1, ((((rdT ty0 l (i : Int)).2).2).2).1, ((((rdT ty0 l (i : Int)).2).2).2).2, ()), ()), ()) = some (((), ()), (U (f i), ())) := by
      rw [e1]; exact e2
    have c3 : deps_New_l5 n k (((), (), (N : Int), ((i + 1 : Nat) : Int), ()), (l, ((), ()), mset (keyEq (.str : Ty)) ((rdT ty0 l (i : Int)).1) (U (f i)) mm, ())) = some (.inl (((), ()), (l, ((), ()), m, ()))) := by
      rw [e1]; exact h2
    rw [deps_New_l5, if_pos (decide_eq_true (show (i : Int) < (N : Int) by omega)), if_pos (show (0 : Int) ≤ (i : Int) ∧ (i : Int) < (l.length : Int) by rw [hl.len]; omega)]
    dsimp only
    rw [if_neg c1, c2]
    dsimp only
    rw [w64_up i (by omega)]
    exact c3
theorem up_of {m : GM} {f : Nat → List Nat} {N : Nat} (hN : N ≤ 16) (hm : MapOk N m f) (hf : ∀ a, a < N → (∀ j ∈ f a, a < j ∧ j < N) ∧ (f a).length ≤ N) : Up m rank 16 := by
  have key : ∀ s ∈ keys m, ∃ a, a < N ∧ s = nm a := by
    intro s hs
    rw [hm.ks] at hs
    obtain ⟨a, ha, rfl⟩ := List.mem_map.1 hs
    exact ⟨a, List.mem_range.1 ha, rfl⟩
  have use : ∀ a, a < N → ∀ u ∈ mget m (nm a), ∃ j, a < j ∧ j < N ∧ u = nm j := by
    intro a ha u hu
    rw [hm.at_ a ha] at hu
    have := (sortS_perm _).mem_iff.1 (mem_compS hu)
    obtain ⟨j, hj, rfl⟩ := List.mem_map.1 this
    exact ⟨j, ((hf a ha).1 j hj).1, ((hf a ha).1 j hj).2, rfl⟩
  refine ⟨?_, fun s hs => ?_, by omega, fun s hs u hu => ?_, fun s hs u hu => ?_, ?_, fun s hs => ?_⟩
  · rw [hm.ks]
    exact List.pairwise_map.2 (List.nodup_range.imp_of_mem fun {a b} ha hb h e => h (nm_inj (by have := List.mem_range.1 ha; omega) (by have := List.mem_range.1 hb; omega) e))
  · obtain ⟨a, ha, rfl⟩ := key s hs
    rw [hm.at_ a ha]
    refine Nat.le_trans (len_compS _) ?_
    rw [(sortS_perm _).length_eq, List.length_map]
    have := (hf a ha).2
    omega
  · obtain ⟨a, ha, rfl⟩ := key s hs
    obtain ⟨j, h1, h2, rfl⟩ := use a ha u hu
    rw [hm.ks]
    exact List.mem_map.2 ⟨j, List.mem_range.2 h2, rfl⟩
  · obtain ⟨a, ha, rfl⟩ := key s hs
    obtain ⟨j, h1, h2, rfl⟩ := use a ha u hu
    rw [rank_nm (by omega), rank_nm (by omega)]
    exact h1
  · rw [hm.ks, List.length_map, List.length_range]; omega
  · obtain ⟨a, ha, rfl⟩ := key s hs
    have := (small_at (i := a) (by omega)).2.1
    omega
theorem number_at {n : Nat} (hn : 1 ≤ n) (x m : Int) (hm : 0 < m) (hm1 : m < 1000000) : world_Number n ((x, m, ()), ()) = some ((num x m, ()), ()) := by
  obtain ⟨n, rfl⟩ : ∃ k, n = k + 1 := ⟨n - 1, by omega⟩
  have hb := tmod_b x m hm
  simp only [world_Number]
  rw [if_neg (show ¬ m = 0 by omega)]
  unfold num
  by_cases h : Int.tmod x m < 0
  · rw [if_pos (decide_eq_true h), if_pos h, w64_id (by omega) (by omega)]
  · rw [if_neg (by simpa using h), if_neg h]
theorem first_ok : law24_first 1000 ((), ()) = some ((true, ()), ()) := by kernel_rfl
theorem DepsFits : law24_DepsFits.Pure := by
  intro x bits _ _
  refine ⟨1001, ?_⟩
  obtain ⟨i, hi, he⟩ := num_nat x (show (0 : Int) < 16 by omega)
  have hw : IntKind.i64.wrap ((i : Int) + 1) = ((i + 1 : Nat) : Int) := w64_up i (by omega)
  show law24_DepsFits (1000 + 1) ((x, bits, ()), ()) = _
  rw [law24_DepsFits, first_ok]
  dsimp only
  rw [if_neg (by simp), number_at (by omega) x 16 (by omega) (by omega), he]
  dsimp only
  rw [hw]
  by_cases hb : (List.length (α := Int) bits : Int) > 16
  · rw [if_pos (decide_eq_true hb)]
  rw [if_neg (by simpa using hb), if_neg (by simp)]
  obtain ⟨l, f, hl, hf, e1⟩ := build (n := 1000) (bits := bits) (N := i + 1) (by omega) (by omega) (i + 1) 1000 0 [] (fun _ => []) (by omega) (by omega) ⟨rfl, fun a ha => absurd ha (Nat.not_lt_zero _)⟩ (fun a ha => absurd ha (Nat.not_lt_zero _))
  have e1' : law24_DepsFits_l9 1000 1000 ((((i + 1 : Nat) : Int), bits, (), 0, ()), ([], ())) = _ := e1
  rw [e1']
  dsimp only
  obtain ⟨m, hm, e2⟩ := new_loop (n := 999) (l := l) (f := f) (N := i + 1) (by omega) (by omega) hl hf (i + 1) 999 0 [] (by omega) (by omega) ⟨rfl, fun a ha => absurd ha (Nat.not_lt_zero _)⟩
  have e2' : deps_New 1000 (((), ()), (l, ())) = some (.inl (((((), ()), (ErrV.nil, ()), ()), ()), (l, ((), ()), m, ()))) := by
    show deps_New (999 + 1) (((), ()), (l, ())) = _
    rw [deps_New, if_neg (by rw [hl.len]; simp; omega), hl.len]
    have e2'' : deps_New_l5 999 999 (((), (), ((i + 1 : Nat) : Int), 0, ()), (l, ((), ()), [], ())) = _ := e2
    rw [e2'']
  rw [e2']
  dsimp only
  rw [if_neg (show ¬ (!(errNil ErrV.nil)) = true by simp [errNil])]
  have U := up_of (by omega) hm hf
  have hr : (⟨#[110, 48]⟩ : ByteArray) ∈ keys m := by
    rw [← nm0, hm.ks]
    exact List.mem_map.2 ⟨0, List.mem_range.2 (by omega), rfl⟩
  obtain ⟨out, hO, e3⟩ := all_at (n := 1000) U hr (by omega) (by omega)
  rw [e3]
  dsimp only
  have hp := hO.pos
  have hol := hO.len
  have hwl : IntKind.i64.wrap ((out.length : Int) - 1) = ((out.length - 1 : Nat) : Int) := by rw [w64_id (by omega) (by omega)]; omega
  rw [if_neg (show ¬ (!(errNil ErrV.nil)) = true by simp [errNil]), if_neg (show ¬ ((out.length : Int) == 0) = true by simp; intro h; rw [h] at hp; simp at hp), hwl, if_pos (show (0 : Int) ≤ ((out.length - 1 : Nat) : Int) ∧ ((out.length - 1 : Nat) : Int) < (out.length : Int) by omega)]
  have e4 : strEq (rdT (.str : Ty) out ((out.length - 1 : Nat) : Int)) (⟨#[110, 48]⟩ : ByteArray) = true := by
    rw [strEq_iff]
    exact decide_eq_true hO.last
  rw [e4, if_neg (by simp)]
  have e5 := ask_all (n := 1000) U hO (by omega) (by omega) out.length 1000 0 (by omega) (by omega)
  have e5' : law24_DepsFits_l25 1000 1000 (((), out, 0, ()), (((), ()), m, ())) = _ := e5
  rw [e5']
  dsimp only
  obtain ⟨v, hv, e6⟩ := depth_at (n := 1000) U hr hO (by omega) (by omega)
  rw [e6]
  dsimp only
  rw [decide_eq_true hv]
end Go.Proofs.YtkmeghmhgbbmhaaDoor.Pure
