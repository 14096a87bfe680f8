/- DiskKeeps, in plain words. By this session. -/
import Derived.Test.YtgpoomkbkckbaaaDoorDiskKeepsW
import Derived.Test.YtgpoomkbkckbaaaDoorDiskKeepsC
import Derived.Test.YtgpoomkbkckbaaaDoorDiskKeepsS
namespace Go.Proofs.YtgpoomkbkckbaaaDoor.Pure
open Go Go.Proofs.YtgpoomkbkckbaaaDoor.Cm
set_option linter.unusedVariables false
set_option linter.unusedSimpArgs false
set_option maxRecDepth 100000
theorem first_at (x : law3_first_ins.T) : law3_first 200 x = some ((true, ()), ()) := by
  obtain ⟨⟨⟩, ⟨⟩⟩ := x
  kernel_rfl
theorem new_at : disk_New 200 ((16, ()), ()) = some (.inl (((((), ()), (ErrV.nil, ()), ()), ()), ((16, (), (), 0, 0, false, ()), [], [], ()))) := by kernel_rfl
/-- What is written: a into the even ones; b into all. -/
def pa (a : List Int) : Nat → M
  | 0 => []
  | i + 1 => mset ki (2 * (i : Int)) a (pa a i)
def pb (b : List Int) : Nat → M
  | 0 => []
  | i + 1 => mset ki (i : Int) b (pb b i)
theorem pa_KB (a : List Int) : ∀ i, i ≤ 8 → KB 16 (pa a i)
  | 0, _ => KB.nil
  | i + 1, h => (pa_KB a i (by omega)).set (by omega) (by omega)
theorem pb_KB (b : List Int) : ∀ i, i ≤ 16 → KB 16 (pb b i)
  | 0, _ => KB.nil
  | i + 1, h => (pb_KB b i (by omega)).set (by omega) (by omega)
theorem pa_len (a : List Int) : ∀ i, (pa a i).length ≤ i
  | 0 => Nat.le_refl _
  | i + 1 => by
    have := mset_len (2 * (i : Int)) a (pa a i)
    have := pa_len a i
    simp only [pa]
    omega
theorem pa_find (a : List Int) (x : Int) : ∀ i : Nat, mfind ki x (pa a i) = if 0 ≤ x ∧ x < 2 * (i : Int) ∧ x % 2 = 0 then some a else none
  | 0 => by rw [if_neg (by omega)]; rfl
  | i + 1 => by
    simp only [pa]
    rw [mfind_set, pa_find a x i]
    by_cases h : x = 2 * (i : Int)
    · rw [if_pos h, if_pos (by omega)]
    · rw [if_neg h]
      by_cases h2 : 0 ≤ x ∧ x < 2 * (i : Int) ∧ x % 2 = 0
      · rw [if_pos h2, if_pos (by omega)]
      · rw [if_neg h2, if_neg (by omega)]
theorem pb_find (b : List Int) (x : Int) : ∀ i : Nat, mfind ki x (pb b i) = if 0 ≤ x ∧ x < (i : Int) then some b else none
  | 0 => by rw [if_neg (by omega)]; rfl
  | i + 1 => by
    simp only [pb]
    rw [mfind_set, pb_find b x i]
    by_cases h : x = (i : Int)
    · rw [if_pos h, if_pos (by omega)]
    · rw [if_neg h]
      by_cases h2 : 0 ≤ x ∧ x < (i : Int)
      · rw [if_pos h2, if_pos (by omega)]
      · rw [if_neg h2, if_neg (by omega)]
def ks16 : List Int := (List.range 16).map fun j : Nat => (j : Int)
theorem pb_keys (b : List Int) : keys (pb b 16) = ks16 := by kernel_rfl
theorem pb_len (b : List Int) : (pb b 16).length = 16 := by kernel_rfl
/-- What a sector has behind the crash. -/
theorem cgo_find (a b picks : List Int) (x : Int) (hx : 0 ≤ x ∧ x < 16) : ∀ k : Nat, k ≤ 16 → mfind ki x (cgo (mergeM [] (pa a 8)) (pb b 16) ks16 picks k) = if x < (k : Int) ∧ pick picks x.toNat = true then some b else if x % 2 = 0 then some a else none
  | 0, _ => by
    rw [if_neg (by omega)]
    show mfind ki x (mergeM [] (pa a 8)) = _
    rw [mfind_merge, pa_find]
    by_cases h : x % 2 = 0
    · rw [if_pos (by omega), if_pos h]; rfl
    · rw [if_neg (by omega), if_neg h]; rfl
  | k + 1, hk => by
    rw [cgo_succ]
    have ih := cgo_find a b picks x hx k (by omega)
    have e : ks16.getD k 0 = (k : Int) := by
      unfold ks16
      rw [List.getD_eq_getElem?_getD, List.getElem?_map, List.getElem?_range (by omega)]; rfl
    unfold cstep
    rw [e, pb_find, if_pos (show (0 : Int) ≤ (k : Int) ∧ (k : Int) < ((16 : Nat) : Int) by omega)]
    by_cases hp : pick picks k = true
    · rw [if_pos hp, mfind_set]
      by_cases h : x = (k : Int)
      · rw [if_pos h, if_pos ⟨by omega, by rw [show x.toNat = k by omega]; exact hp⟩]
        rfl
      · rw [if_neg h, ih]
        by_cases h2 : x < (k : Int) ∧ pick picks x.toNat = true
        · rw [if_pos h2, if_pos ⟨by omega, h2.2⟩]
        · rw [if_neg h2, if_neg (show ¬ (x < ((k + 1 : Nat) : Int) ∧ pick picks x.toNat = true) from fun h3 => h2 ⟨by omega, h3.2⟩)]
    · rw [if_neg hp, ih]
      by_cases h : x = (k : Int)
      · rw [if_neg (show ¬ (x < (k : Int) ∧ pick picks x.toNat = true) from fun h3 => by omega), if_neg (show ¬ (x < ((k + 1 : Nat) : Int) ∧ pick picks x.toNat = true) from fun h3 => hp (by rw [← show x.toNat = k by omega]; exact h3.2))]
      · by_cases h2 : x < (k : Int) ∧ pick picks x.toNat = true
        · rw [if_pos h2, if_pos ⟨by omega, h2.2⟩]
        · rw [if_neg h2, if_neg (show ¬ (x < ((k + 1 : Nat) : Int) ∧ pick picks x.toNat = true) from fun h3 => h2 ⟨by omega, h3.2⟩)]
theorem loop1 {a b picks : List Int} (ha : a.length ≤ 100) :
    law3_DiskKeeps_l10 200 200 ((a, b, picks, (), 0, ()), ((16, (), (), 0, 0, false, ()), [], [], ())) = some (.inl ((a, b, picks, (), ()), ((16, (), (), 8, 0, false, ()), [], pa a 8, ()))) := by
  have h := for_all (F := law3_DiskKeeps_l10 200) (len := 8) (fun i => ((a, b, picks, (), (i : Int), ()), ((16, (), (), (i : Int), 0, false, ()), [], pa a i, ()))) (r := some (.inl ((a, b, picks, (), ()), ((16, (), (), 8, 0, false, ()), [], pa a 8, ())))) (fun i k hi => by
    simp only [law3_DiskKeeps_l10]
    rw [if_pos (decide_eq_true (show (i : Int) < 8 by omega)), w64_id (show -9223372036854775808 ≤ 2 * (i : Int) by omega) (by omega), write2_ok (n := 200) (by omega) (by omega) rfl (show 0 ≤ 2 * (i : Int) by omega) (by omega) (by omega) (by omega)]
    simp only [errNil, Bool.not_true, Bool.false_eq_true, if_false, show ar false 0 = 0 from rfl, w64_up i (by omega)]
    rfl) (fun k => by
    simp only [law3_DiskKeeps_l10]
    rw [if_neg (by decide)]
    rfl) (k := 200) (by omega)
  exact h
theorem loop2 {a b picks : List Int} {f : M} (hb : b.length ≤ 100) :
    law3_DiskKeeps_l17 200 200 ((a, b, picks, (), 0, ()), ((16, (), (), 9, 0, false, ()), f, [], ())) = some (.inl ((a, b, picks, (), ()), ((16, (), (), 25, 0, false, ()), f, pb b 16, ()))) := by
  have h := for_all (F := law3_DiskKeeps_l17 200) (len := 16) (fun i => ((a, b, picks, (), (i : Int), ()), ((16, (), (), (9 : Int) + (i : Int), 0, false, ()), f, pb b i, ()))) (r := some (.inl ((a, b, picks, (), ()), ((16, (), (), 25, 0, false, ()), f, pb b 16, ())))) (fun i k hi => by
    simp only [law3_DiskKeeps_l17]
    rw [if_pos (decide_eq_true (show (i : Int) < 16 by omega)), write2_ok (n := 200) (by omega) (by omega) rfl (show 0 ≤ (i : Int) by omega) (by omega) (by omega) (by omega)]
    simp only [errNil, Bool.not_true, Bool.false_eq_true, if_false, show ar false 0 = 0 from rfl, w64_up i (by omega), show (9 : Int) + (i : Int) + 1 = 9 + ((i + 1 : Nat) : Int) by omega]
    rfl) (fun k => by
    simp only [law3_DiskKeeps_l17]
    rw [if_neg (by decide)]
    rfl) (k := 200) (by omega)
  exact h
theorem loop3 {a b picks : List Int} {f : M} {c : Int} (ha : a.length ≤ 100) (hb : b.length ≤ 100) (hp : picks.length ≤ 16) (hf : ∀ x : Nat, x < 16 → mfind ki (x : Int) f = if pick picks x = true then some b else if (x : Int) % 2 = 0 then some a else none) :
    law3_DiskKeeps_l23 200 200 ((a, b, picks, (), 0, ()), ((16, (), (), c, 0, false, ()), f, [], ())) = some (.inl (((), ()), ((16, (), (), c, 0, false, ()), f, [], ()))) := by
  have h := for_all (F := law3_DiskKeeps_l23 200) (len := 16) (fun i => ((a, b, picks, (), (i : Int), ()), ((16, (), (), c, 0, false, ()), f, [], ()))) (r := some (.inl (((), ()), ((16, (), (), c, 0, false, ()), f, [], ())))) (fun i k hi => by
    have h3 := hf i hi
    have hs : sec f [] (i : Int) = if pick picks i = true then some b else if (i : Int) % 2 = 0 then some a else none := by
      unfold sec
      rw [h3]
      rfl
    have e2 : Int.tmod (i : Int) 2 = (i : Int) % 2 := Int.tmod_eq_emod_of_nonneg (by omega)
    have sb := same_at (n := 200) (l := b) (by omega) (by omega)
    have sa := same_at (n := 200) (l := a) (by omega) (by omega)
    simp only [law3_DiskKeeps_l23]
    rw [if_pos (decide_eq_true (show (i : Int) < 16 by omega)), read_at (by omega) c 0 f [] (show (0 : Int) ≤ (i : Int) by omega) (show (i : Int) < 16 by omega) (by
      rw [hs]
      split
      · simp; omega
      · split
        · simp; omega
        · simp), hs]
    simp only []
    have fin : ∀ q : Bool, q = pick picks i → law3_DiskKeeps_c29 200 ((a, b, picks, (), (i : Int), (), ((if pick picks i = true then some b else if (i : Int) % 2 = 0 then some a else none) : Option (List Int)).isSome, ErrV.nil, q, ()), ((16, (), (), c, 0, false, ()), ((if pick picks i = true then some b else if (i : Int) % 2 = 0 then some a else none) : Option (List Int)).getD [], f, [], ())) =
        some (.inl ((a, b, picks, (), (i : Int), (), ((if pick picks i = true then some b else if (i : Int) % 2 = 0 then some a else none) : Option (List Int)).isSome, q, ()), ((16, (), (), c, 0, false, ()), ((if pick picks i = true then some b else if (i : Int) % 2 = 0 then some a else none) : Option (List Int)).getD [], f, [], ()))) := by
      intro q hq
      subst hq
      simp only [law3_DiskKeeps_c29, errNil, Bool.not_true, Bool.false_eq_true, if_false]
      by_cases hq : pick picks i = true
      · simp only [hq, if_true, Option.isSome_some]
        rfl
      · simp only [hq, if_false, Bool.false_eq_true]
        by_cases hm : (i : Int) % 2 = 0
        · simp only [if_pos hm, Option.isSome_some, e2]
          rw [if_neg (by rw [hm]; decide)]
        · simp only [if_neg hm, Option.isSome_none, e2]
          rw [if_neg (by
            have : ((i : Int) % 2 == 0) = false := by simpa using hm
            rw [this]; decide)]
    by_cases h1 : i < picks.length
    · rw [if_pos (decide_eq_true (show (i : Int) < (picks.length : Int) by omega)), if_pos (show (0 : Int) ≤ (i : Int) ∧ (i : Int) < (picks.length : Int) by omega)]
      have hpk : (bitsOp .and .i64 (rdT (.int .i64) picks (i : Int)) 1 == 1) = pick picks i := by
        unfold pick
        rw [decide_eq_true h1, Bool.true_and]
        rfl
      rw [fin _ hpk, hpk]
      by_cases hq : pick picks i = true
      · simp only [hq, if_true, Option.isSome_some, Option.getD_some, sb, Bool.not_true, Bool.false_eq_true, if_false, w64_up i (by omega)]
      · by_cases hm : (i : Int) % 2 = 0
        · simp only [hq, if_false, Bool.false_eq_true, if_pos hm, Option.isSome_some, Option.getD_some, Bool.not_false, if_true, sa, Bool.not_true, w64_up i (by omega)]
        · simp only [hq, if_false, Bool.false_eq_true, if_neg hm, Option.isSome_none, Option.getD_none, Bool.not_false, if_true, w64_up i (by omega)]
    · have hq : pick picks i = false := by unfold pick; rw [decide_eq_false h1]; rfl
      rw [if_neg (by simpa using h1), fin false hq.symm]
      by_cases hm : (i : Int) % 2 = 0
      · simp only [hq, if_false, Bool.false_eq_true, if_pos hm, Option.isSome_some, Option.getD_some, Bool.not_false, if_true, sa, Bool.not_true, w64_up i (by omega)]
      · simp only [hq, if_false, Bool.false_eq_true, if_neg hm, Option.isSome_none, Option.getD_none, Bool.not_false, if_true, w64_up i (by omega)]) (fun k => by
    simp only [law3_DiskKeeps_l23]
    rw [if_neg (by decide)]) (k := 200) (by omega)
  exact h
theorem DiskKeeps : law3_DiskKeeps.Pure := by
  intro a b picks g0 g1 g2
  refine ⟨200 + 1, ?_⟩
  change List Int at a b picks
  simp only [law3_DiskKeeps, first_at, Bool.not_true, Bool.false_eq_true, if_false]
  by_cases h1 : (a.length : Int) > 100
  · rw [if_pos (decide_eq_true h1)]
  · rw [if_neg (by simpa using h1)]
    by_cases h2 : (b.length : Int) > 100
    · rw [if_pos (decide_eq_true h2)]
    · rw [if_neg (by simpa using h2)]
      by_cases h3 : (picks.length : Int) > 16
      · rw [if_pos (decide_eq_true h3)]
      · rw [if_neg (by simpa using h3), new_at]
        simp only [errNil, Bool.not_true, Bool.false_eq_true, if_false]
        rw [loop1 (by omega)]
        simp only []
        have hl := pa_len a 8
        rw [flush_ok (by omega) (by omega) rfl (by omega) (by omega) KB.nil (pa_KB a 8 (by omega)) (by simp; omega)]
        simp only [errNil, Bool.not_true, Bool.false_eq_true, if_false, show ar false 0 = 0 from rfl, show (8 : Int) + 1 = 9 from rfl]
        rw [loop2 (by omega)]
        simp only []
        rw [crash_at (pb_KB b 16 (by omega)) (by omega) (by rw [pb_len]; omega) (by rw [pb_len]; omega), pb_keys, pb_len]
        simp only []
        rw [loop3 (by omega) (by omega) (by omega) (fun x hx => by
          rw [cgo_find a b picks (x : Int) (by omega) 16 (by omega)]
          by_cases hq : pick picks x = true
          · rw [if_pos ⟨by omega, hq⟩, if_pos hq]
          · rw [if_neg (fun h => hq h.2), if_neg hq])]
        rfl
end Go.Proofs.YtgpoomkbkckbaaaDoor.Pure
