/- DiskBounds, in plain words. By this session. -/
import Derived.Test.YtgpoomkbkckbaaaDoorDiskBoundsW
namespace Go.Proofs.YtgpoomkbkckbaaaDoor.Pure
open Go Go.Proofs.YtgpoomkbkckbaaaDoor.Cm
set_option linter.unusedVariables false
set_option maxRecDepth 100000
theorem first_at (x : law3_first_ins.T) : law3_first 100 x = some ((true, ()), ()) := by
  obtain ⟨⟨⟩, ⟨⟩⟩ := x
  kernel_rfl
theorem is104 : pendulumsee_Is 100 ((ErrV.sent 104, (104 : Int), ()), ()) = some ((true, ()), ()) := id (by kernel_rfl)
theorem is118 : pendulumsee_Is 100 ((ErrV.sent 118, (118 : Int), ()), ()) = some ((true, ()), ()) := id (by kernel_rfl)
theorem is103 : pendulumsee_Is 100 ((ErrV.sent 103, (103 : Int), ()), ()) = some ((true, ()), ()) := id (by kernel_rfl)
theorem DiskBounds : law3_DiskBounds.Pure := by
  intro s i x g0 g1 g2
  refine ⟨100 + 1, ?_⟩
  change Int at s i x
  have hx := num_range x (show (0 : Int) < 300 by omega)
  simp only [law3_DiskBounds, first_at, number_at (n := 100) (by omega) x 300 (by omega) (by omega), Bool.not_true, Bool.false_eq_true, if_false, if_true]
  by_cases h1 : s < 1
  · have e : disk_New 100 ((s, ()), ()) = some (.inr ((((((), ()), (ErrV.sent 104, ()), ()), ()), ()))) := by simp only [disk_New]; rw [if_pos (decide_eq_true h1)]
    simp only [e, decide_eq_true h1, if_true]
    rw [is104]
  · by_cases h2 : s > 16384
    · have e : disk_New 100 ((s, ()), ()) = some (.inr ((((((), ()), (ErrV.sent 104, ()), ()), ()), ()))) := by simp only [disk_New]; rw [if_neg (by simpa using h1), if_pos (decide_eq_true h2)]
      simp only [e, decide_eq_false h1, decide_eq_true h2, Bool.false_eq_true, if_false, if_true]
      rw [is104]
    · have e : disk_New 100 ((s, ()), ()) = some (.inl (((((), ()), (ErrV.nil, ()), ()), ()), ((s, (), (), 0, 0, false, ()), [], [], ()))) := by simp only [disk_New]; rw [if_neg (by simpa using h1), if_neg (by simpa using h2)]
      have hrep : (List.replicate (num x 300).toNat (0 : Int)).length ≤ 300 := by simp; omega
      simp only [e, decide_eq_false h1, decide_eq_false h2, Bool.false_eq_true, if_false, errNil, Bool.not_true, disk_Disk_Sectors, bne_self_eq_false]
      rw [if_pos (show (0 : Int) ≤ num x 300 ∧ num x 300 ≤ num x 300 ∧ num x 300 * ((1 : Nat) : Int) ≤ 140737488355328 ∧ num x 300 ≤ 140737488355328 by omega)]
      by_cases h3 : i < 0 ∨ s ≤ i
      · rw [write_full (n := 100) (by omega) (by omega) rfl h3]
        simp only [show ar false 0 = 0 from rfl]
        rw [read_full (by omega) _ _ _ _ h3]
        by_cases h4 : i < 0
        · simp only [decide_eq_true h4, if_true, is118, disk_Disk_Pending]
          rfl
        · simp only [decide_eq_false h4, decide_eq_true (show i ≥ s by omega), Bool.false_eq_true, if_false, if_true, is118, disk_Disk_Pending]
          rfl
      · have e1 : decide (i < 0) = false := decide_eq_false (by omega)
        have e2 : decide (i ≥ s) = false := decide_eq_false (by omega)
        by_cases h5 : num x 300 > 128
        · rw [write_many (n := 100) (by omega) (by omega) rfl (by omega) (by omega) (by simp; omega)]
          simp only [show ar false 0 = 0 from rfl]
          rw [read_at (by omega) _ _ _ _ (by omega) (by omega) (by simp [sec, mfind])]
          simp only [e1, e2, decide_eq_true h5, Bool.false_eq_true, if_false, if_true, is103, disk_Disk_Calls, sec, mfind]
          rfl
        · rw [write_ok (n := 100) (by omega) (by omega) rfl (by omega) (by omega) (by simp; omega) (by omega)]
          simp only [show ar false 0 = 0 from rfl]
          have hs : sec [] (mset ki i (List.replicate (num x 300).toNat 0) []) i = some (List.replicate (num x 300).toNat 0) := by
            unfold sec
            rw [mfind_set, if_pos rfl]
            rfl
          rw [read_at (by omega) _ _ _ _ (by omega) (by omega) (by rw [hs]; simp; omega)]
          simp only [e1, e2, decide_eq_false h5, Bool.false_eq_true, if_false, if_true, hs, Option.isSome_some, errNil, disk_Disk_Pending, disk_Disk_Calls]
          rfl
end Go.Proofs.YtgpoomkbkckbaaaDoor.Pure
