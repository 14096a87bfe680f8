/- DiskFlushes, in plain words. By this session. -/
import Derived.Test.YtgpoomkbkckbaaaDoorDiskFlushesW
import Derived.Test.YtgpoomkbkckbaaaDoorDiskFlushesC
namespace Go.Proofs.YtgpoomkbkckbaaaDoor.Pure
open Go Go.Proofs.YtgpoomkbkckbaaaDoor.Cm
set_option linter.unusedVariables false
set_option linter.unusedSimpArgs false
set_option maxRecDepth 100000
theorem first_at (x : law3_first_ins.T) : law3_first 100 x = some ((true, ()), ()) := by
  obtain ⟨⟨⟩, ⟨⟩⟩ := x
  kernel_rfl
theorem new_at : disk_New 100 ((12, ()), ()) = some (.inl (((((), ()), (ErrV.nil, ()), ()), ()), ((12, (), (), 0, 0, false, ()), [], [], ()))) := by kernel_rfl
theorem is0 : pendulumsee_Is 100 ((ErrV.nil, 0, ()), ()) = some ((true, ()), ()) := by kernel_rfl
/-- What is written last; what is flushed. -/
def hv (l : List Int) : Nat → List Int
  | 0 => List.replicate 12 0
  | i + 1 => (hv l i).set (num (l.getD i 0) 12).toNat ((i + 1 : Nat) : Int)
def fl (l : List Int) : Nat → M
  | 0 => []
  | i + 1 => mergeM (fl l i) [(num (l.getD i 0) 12, [((i + 1 : Nat) : Int)])]
theorem hv_len (l : List Int) : ∀ i, (hv l i).length = 12
  | 0 => rfl
  | i + 1 => by simp [hv, hv_len l i]
theorem fl_KB (l : List Int) : ∀ i, KB 12 (fl l i)
  | 0 => KB.nil
  | i + 1 => (fl_KB l i).merge (fun p hp => by
    obtain rfl := List.mem_singleton.1 hp
    exact num_range _ (by omega))
theorem fl_len (l : List Int) : ∀ i, (fl l i).length ≤ i
  | 0 => Nat.le_refl _
  | i + 1 => by
    have := merge_len (fl l i) [(num (l.getD i 0) 12, [((i + 1 : Nat) : Int)])]
    have := fl_len l i
    simp only [fl, List.length_singleton] at *
    omega
theorem fl_find (l : List Int) (x : Nat) (hx : x < 12) : ∀ i, 0 ≤ (hv l i).getD x 0 ∧ (hv l i).getD x 0 ≤ i ∧ mfind ki (x : Int) (fl l i) = if (hv l i).getD x 0 > 0 then some [(hv l i).getD x 0] else none
  | 0 => by
    have e : (hv l 0).getD x 0 = 0 := by
      simp only [hv, List.getD_eq_getElem?_getD, List.getElem?_replicate]
      rw [if_pos hx]
      rfl
    rw [e]
    exact ⟨by omega, by omega, rfl⟩
  | i + 1 => by
    obtain ⟨h1, h2, h3⟩ := fl_find l x hx i
    obtain ⟨k, hk, ek⟩ := num_nat (l.getD i 0) (show (0 : Int) < 12 by omega)
    have ef : fl l (i + 1) = mergeM (fl l i) [((k : Int), [((i + 1 : Nat) : Int)])] := by rw [← ek]; rfl
    have eh : hv l (i + 1) = (hv l i).set k ((i + 1 : Nat) : Int) := by
      have : (num (l.getD i 0) 12).toNat = k := by omega
      rw [← this]; rfl
    rw [ef, eh, mfind_merge, h3]
    have hl := hv_len l i
    by_cases e : x = k
    · subst e
      have : ((hv l i).set x ((i + 1 : Nat) : Int)).getD x 0 = ((i + 1 : Nat) : Int) := by
        rw [List.getD_eq_getElem?_getD, List.getElem?_set, if_pos rfl, if_pos (by omega)]; rfl
      rw [this]
      refine ⟨by omega, by omega, ?_⟩
      rw [show mfind ki (x : Int) [((x : Int), [((i + 1 : Nat) : Int)])] = some [((i + 1 : Nat) : Int)] by simp [mfind, ki, keyEq], if_pos (show ((i + 1 : Nat) : Int) > 0 by omega)]
      rfl
    · have : ((hv l i).set k ((i + 1 : Nat) : Int)).getD x 0 = (hv l i).getD x 0 := by
        rw [List.getD_eq_getElem?_getD, List.getElem?_set, if_neg (fun h => e h.symm)]
        rw [List.getD_eq_getElem?_getD]
      rw [this]
      refine ⟨h1, by omega, ?_⟩
      have hne : ¬ (x : Int) = (k : Int) := by omega
      simp [mfind, ki, keyEq, hne]
theorem rdI (k : IntKind) (l : List Int) (i : Nat) : rdT (.int k) l (i : Int) = l.getD i 0 := rfl
theorem rdI0 (k : IntKind) (l : List Int) : rdT (.int k) l 0 = l.getD 0 0 := rfl
theorem wrap8 {x : Int} (h0 : 0 ≤ x) (h1 : x < 256) : IntKind.u8.wrap x = x := by rw [IntKind.wrap_u8]; omega
theorem loop1 {l picks : List Int} (hl : l.length ≤ 30) :
    law3_DiskFlushes_l11 100 100 ((l, picks, (), (), 0, ()), ((12, (), (), 0, 0, false, ()), List.replicate 12 0, [], [], ())) = some (.inl (((), (), ()), ((12, (), (), 2 * ((l.length : Nat) : Int), 0, false, ()), hv l l.length, fl l l.length, [], ()))) := by
  have h := for_all (F := law3_DiskFlushes_l11 100) (len := l.length) (fun i => ((l, picks, (), (), (i : Int), ()), ((12, (), (), 2 * (i : Int), 0, false, ()), hv l i, fl l i, [], ()))) (r := some (.inl (((), (), ()), ((12, (), (), 2 * ((l.length : Nat) : Int), 0, false, ()), hv l l.length, fl l l.length, [], ())))) (fun i k hi => by
    have hk := num_range (l.getD i 0) (show (0 : Int) < 12 by omega)
    have hh := hv_len l i
    have hf := fl_len l i
    simp only [law3_DiskFlushes_l11]
    rw [if_pos (decide_eq_true (show (i : Int) < (l.length : Int) by omega)), if_pos (show (0 : Int) ≤ (i : Int) ∧ (i : Int) < (l.length : Int) by omega)]
    simp only [rdI]
    rw [number_at (n := 100) (by omega) (l.getD i 0) 12 (by omega) (by omega)]
    simp only [w64_up i (by omega)]
    rw [wrap8 (show (0 : Int) ≤ ((i + 1 : Nat) : Int) by omega) (by omega), write_ok (n := 100) (by omega) (by omega) rfl hk.1 hk.2 (by simp) (by omega)]
    simp only [errNil, Bool.not_true, Bool.false_eq_true, if_false, show ar false 0 = 0 from rfl, show mset ki (num (l.getD i 0) 12) [((i + 1 : Nat) : Int)] [] = [(num (l.getD i 0) 12, [((i + 1 : Nat) : Int)])] from rfl]
    rw [flush_ok (by omega) (by omega) rfl (by omega) (by omega) (fl_KB l i) (fun p hp => by
      obtain rfl := List.mem_singleton.1 hp
      exact hk) (by simp; omega)]
    simp only [errNil, Bool.not_true, Bool.false_eq_true, if_false, disk_Disk_Pending, List.length_nil]
    rw [if_neg (by decide), if_pos (show (0 : Int) ≤ num (l.getD i 0) 12 ∧ num (l.getD i 0) 12 < ((hv l i).length : Int) by omega)]
    rw [crash_at (s := 12) KB.nil (by omega) (by simp) (by simp)]
    have e : 2 * (i : Int) + 1 + 1 = 2 * ((i + 1 : Nat) : Int) := by omega
    simp only [e]
    rfl) (fun k => by
    simp only [law3_DiskFlushes_l11]
    rw [if_neg (by simp)]) (k := 100) (by omega)
  exact h
theorem loop2 {c : Int} {h : List Int} {f : M} (hl : h.length = 12) (hf : ∀ x : Nat, x < 12 → 0 ≤ h.getD x 0 ∧ h.getD x 0 ≤ 30 ∧ mfind ki (x : Int) f = if h.getD x 0 > 0 then some [h.getD x 0] else none) :
    law3_DiskFlushes_l19 100 100 (((), (), 0, ()), ((12, (), (), c, 0, false, ()), h, f, [], ())) = some (.inl ((), ())) := by
  have h := for_all (F := law3_DiskFlushes_l19 100) (len := 12) (fun i => (((), (), (i : Int), ()), ((12, (), (), c, 0, false, ()), h, f, [], ()))) (r := some (.inl ((), ()))) (fun i k hi => by
    obtain ⟨h1, h2, h3⟩ := hf i hi
    have hs : sec f [] (i : Int) = if h.getD i 0 > 0 then some [h.getD i 0] else none := by
      unfold sec
      rw [h3]
      rfl
    simp only [law3_DiskFlushes_l19]
    rw [if_pos (decide_eq_true (show (i : Int) < 12 by omega)), read_at (by omega) c 0 f [] (show (0 : Int) ≤ (i : Int) by omega) (show (i : Int) < 12 by omega) (by rw [hs]; split <;> simp), hs]
    simp only [errNil, Bool.not_true, Bool.false_eq_true, if_false]
    rw [if_pos (show (0 : Int) ≤ (i : Int) ∧ (i : Int) < (h.length : Int) by omega)]
    by_cases hp : h.getD i 0 > 0
    · have hw : IntKind.i64.wrap (h.getD i 0) = h.getD i 0 := w64_id (by omega) (by omega)
      simp only [if_pos hp, Option.isSome_some, Option.getD_some, List.length_singleton, if_true]
      rw [if_neg (by rw [decide_eq_true (show rdT (Ty.int IntKind.i64) h (i : Int) > 0 from hp)]; decide), if_neg (by decide), if_pos (by decide), if_pos (show (0 : Int) ≤ (i : Int) ∧ (i : Int) < (h.length : Int) by omega)]
      rw [if_neg (by
        show ¬ (IntKind.i64.wrap (h.getD i 0) != h.getD i 0) = true
        rw [hw]; simp)]
      simp only [w64_up i (by omega)]
    · simp only [if_neg hp, Option.isSome_none, Option.getD_none]
      rw [if_neg (by rw [decide_eq_false (show ¬ rdT (Ty.int IntKind.i64) h (i : Int) > 0 from hp)]; decide), if_neg (by decide)]
      simp only [w64_up i (by omega)]) (fun k => by
    simp only [law3_DiskFlushes_l19]
    rw [if_neg (by decide)]) (k := 100) (by omega)
  exact h
theorem DiskFlushes : law3_DiskFlushes.Pure := by
  intro l picks g0 g1
  refine ⟨100 + 1, ?_⟩
  change List Int at l picks
  simp only [law3_DiskFlushes, first_at, Bool.not_true, Bool.false_eq_true, if_false]
  by_cases h1 : (l.length : Int) > 30
  · rw [if_pos (decide_eq_true h1)]
  · rw [if_neg (by simpa using h1)]
    by_cases h2 : (picks.length : Int) > 12
    · rw [if_pos (decide_eq_true h2)]
    · rw [if_neg (by simpa using h2), new_at]
      simp only [errNil, Bool.not_true, Bool.false_eq_true, if_false]
      rw [if_pos (by decide)]
      have e1 := loop1 (l := l) (picks := picks) (by omega)
      have e2 := loop2 (c := 2 * ((l.length : Nat) : Int)) (h := hv l l.length) (f := fl l l.length) (hv_len l _) (fun x hx => by
        obtain ⟨h3, h4, h5⟩ := fl_find l x hx l.length
        exact ⟨h3, by omega, h5⟩)
      rw [show List.replicate (12 : Int).toNat (0 : Int) = List.replicate 12 0 from rfl, e1]
      simp only []
      rw [e2]
      simp only []
      rw [is0]
end Go.Proofs.YtgpoomkbkckbaaaDoor.Pure
