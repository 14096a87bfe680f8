/- PlanFaces, in plain words. -/
import Derived.Test.YtbkglcehcjlmgaaDoorKPlanR
import Derived.Test.YtbkglcehcjlmgaaDoorPl
namespace Go.Proofs.YtbkglcehcjlmgaaDoor.Pure
open Go.RowKit Go.Proofs.YtbkglcehcjlmgaaDoor.KPlan Go.Proofs.YtbkglcehcjlmgaaDoor.Pl Go.Proofs.YtbkglcehcjlmgaaDoorW.PrintWords Go.Proofs.YtbkglcehcjlmgaaDoorW.PrintLast Go.Proofs.YtbkglcehcjlmgaaDoorW.PrintMore

theorem first_ans : Ans (fun k => pendulumlaw26_first.f k) true := Ans.of_mono (m := 1000) pendulumlaw26_first.mono (by kernel_rfl)
theorem sameInts_ans (x y : List Int) (hx : x.length < 4611686018427387904) : Ans (fun k => pendulumref_SameInts.f k x y) (decide (x = y)) := by
  by_cases hl : x.length = y.length
  · refine Ans.congr (G := fun k => pendulumref_SameInts.l0 k x y ((0 : Nat) : Int)) ?_ (fun k => by unfold pendulumref_SameInts.f; rw [if_pos (by omega)]; rfl)
    have := eq_loop (L := fun k i => pendulumref_SameInts.l0 k x y i) hl hx (fun k i hi => by simp only [pendulumref_SameInts.l0]; rw [if_pos (by omega), if_pos (by omega), if_pos (by omega), rd_nat, rd_nat, up i (by omega)])
      (fun k => by simp only [pendulumref_SameInts.l0]; rw [if_neg (by omega)]) x.length 0 (by omega)
    simpa using this
  · refine Ans.of_eq fun k => ?_
    unfold pendulumref_SameInts.f
    rw [if_neg (by omega), decide_eq_false (fun e => hl (by rw [e]))]
theorem equal_ans (x y : List Int) (hx : x.length < 4611686018427387904) : Ans (fun k => slices_Equal_int_int.f k x y) (decide (x = y)) := by
  by_cases hl : x.length = y.length
  · refine Ans.congr (G := fun k => slices_Equal_int_int.l0 k x y x.length ((0 : Nat) : Int)) ?_ (fun k => by unfold slices_Equal_int_int.f; rw [if_pos (by omega)]; rfl)
    have := eq_loop (L := fun k i => slices_Equal_int_int.l0 k x y x.length i) hl hx (fun k i hi => by simp only [slices_Equal_int_int.l0]; rw [if_pos (by omega), if_pos (by omega), if_pos (by omega), if_pos (by omega), rd_nat, rd_nat, up i (by omega)])
      (fun k => by simp only [slices_Equal_int_int.l0]; rw [if_neg (by omega)]) x.length 0 (by omega)
    simpa using this
  · refine Ans.of_eq fun k => ?_
    unfold slices_Equal_int_int.f
    rw [if_neg (by omega), decide_eq_false (fun e => hl (by rw [e]))]
theorem ints_ans (x : List Int) (hx : x.length < 17592186044416) : Ans (fun k => pendulumref_Ints.f k x) x := by
  refine Ans.congr (G := fun k => pendulumref_Ints.l0 k x [] ((0 : Nat) : Int)) ?_ (fun k => by unfold pendulumref_Ints.f; rw [if_pos (by omega), if_pos (by omega)]; rfl)
  have := app_loop (L := fun k acc i => pendulumref_Ints.l0 k x acc i) (n := x.length) (f := fun i => x.getD i 0) (fin := id) (Nat.le_refl _) (fun k acc i hi ha => by simp only [pendulumref_Ints.l0]; rw [if_pos (by omega), if_pos (by omega), if_pos (by omega), rd_nat, up i (by omega)])
    (fun k acc => by simp only [pendulumref_Ints.l0]; rw [if_neg (by omega)]; rfl) x.length 0 [] (by omega) rfl
  have h2 := map_range_getD x 0 (fun v : Int => v)
  simp only [List.map_id'] at h2
  rw [List.nil_append, h2] at this
  exact this
theorem face_ans (a : ByteArray) (x y : List Int) (hx : x.length < 17592186044416) (hy : y.length < 17592186044416) : Ans (fun k => pendulumref_Face.f k a x y) (a, x, y) := by
  unfold pendulumref_Face.f
  refine Ans.bind (ints_ans x hx) ?_
  refine Ans.bind (ints_ans y hy) ?_
  exact Ans.some _
theorem admit_ans (a : ByteArray) (x y : List Int) (b : ByteArray) (u v : List Int) (hx : x.length < 4611686018427387904) (hy : y.length < 4611686018427387904) :
    Ans (fun k => plan_Admit.f k a x y b u v) (if x = u ∧ y = v then none else some 121) := by
  unfold plan_Admit.f
  refine Ans.bind (equal_ans x u hx) ?_
  refine Ans.ite (fun h1 => ?_) (fun h1 => ?_)
  · have h1 := of_decide_eq_true h1
    refine Ans.bind (equal_ans y v hy) ?_
    refine Ans.ite (fun h2 => ?_) (fun h2 => ?_)
    · exact Ans.of_eq fun _ => by rw [if_pos ⟨h1, of_decide_eq_true h2⟩]
    · exact Ans.of_eq fun _ => by rw [if_neg (fun h => h2 (decide_eq_true h.2))]
  · exact Ans.of_eq fun _ => by rw [if_neg (fun h => h1 (decide_eq_true h.1))]

theorem PlanFaces : pendulumlaw26_PlanFaces.Pure := by
  intro a x y b u v _ hx _ hy _ _ hu _ hv _
  refine Ans.exists ?_
  unfold pendulumlaw26_PlanFaces.f
  refine Ans.bind first_ans ?_
  refine Ans.ite_pos rfl ?_
  have skip : Ans (fun k => pendulumlaw26_PlanFaces.j0 k true true a x y b u v) true := Ans.succ (fun k => by simp only [pendulumlaw26_PlanFaces.j0, if_true]) (Ans.some _)
  refine Ans.ite (fun _ => skip) (fun h1 => ?_)
  refine Ans.ite (fun _ => skip) (fun h2 => ?_)
  refine Ans.ite (fun _ => skip) (fun h3 => ?_)
  refine Ans.ite (fun _ => skip) (fun h4 => ?_)
  have last : Ans (fun k => pendulumlaw26_PlanFaces.j2 k (if x = u ∧ y = v then 0 else 121) a x y b u v) true := by
    refine Ans.succ (fun k => by simp only [pendulumlaw26_PlanFaces.j2]; rfl) ?_
    refine Ans.bind (face_ans a x y (by omega) (by omega)) ?_
    refine Ans.bind (admit_ans a x y b u v (by omega) (by omega)) ?_
    have hs : pendulumsee_Is.f (if x = u ∧ y = v then none else some 121) (if x = u ∧ y = v then 0 else 121) = some true := by
      by_cases h : x = u ∧ y = v
      · rw [if_pos h, if_pos h]; rfl
      · rw [if_neg h, if_neg h]; rfl
    refine Ans.bind (Ans.of_eq fun _ => hs) ?_
    refine Ans.ite_pos rfl ?_
    refine Ans.bind (admit_ans a x y b x y (by omega) (by omega)) ?_
    rw [if_pos (show x = x ∧ y = y from ⟨rfl, rfl⟩)]
    exact Ans.of_eq fun _ => rfl
  have mid : ∀ t : Bool, t = decide (x = u ∧ y = v) → Ans (fun k => pendulumlaw26_PlanFaces.j1 k 121 t a x y b u v) true := by
    intro t ht
    refine Ans.succ (fun k => by simp only [pendulumlaw26_PlanFaces.j1]; rfl) ?_
    refine Ans.ite (fun h => ?_) (fun h => ?_)
    · rwa [if_pos (of_decide_eq_true (ht.symm.trans h))] at last
    · rwa [if_neg (fun h' => h (ht.trans (decide_eq_true h')))] at last
  refine Ans.succ (fun k => by simp only [pendulumlaw26_PlanFaces.j0]; rfl) ?_
  refine Ans.ite_neg (by simp) ?_
  refine Ans.bind (sameInts_ans x u (by omega)) ?_
  refine Ans.ite (fun h5 => ?_) (fun h5 => ?_)
  · refine Ans.bind (sameInts_ans y v (by omega)) ?_
    exact mid _ (by have := of_decide_eq_true h5; simp [this])
  · exact mid _ (by have : ¬ x = u := fun e => h5 (decide_eq_true e); simp [this])
end Go.Proofs.YtbkglcehcjlmgaaDoor.Pure
