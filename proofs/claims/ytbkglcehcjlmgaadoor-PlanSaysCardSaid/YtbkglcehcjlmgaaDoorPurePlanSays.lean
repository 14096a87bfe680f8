/- PlanSays, in plain words. -/
import Derived.Test.YtbkglcehcjlmgaaDoorPlanA
set_option linter.unusedSimpArgs false
namespace Go.Proofs.YtbkglcehcjlmgaaDoor.Pure
open Go.RowKit Go.Proofs.YtbkglcehcjlmgaaDoor.KPlan Go.Proofs.YtbkglcehcjlmgaaDoor.Pl Go.Proofs.YtbkglcehcjlmgaaDoor.PlanA Go.Proofs.YtbkglcehcjlmgaaDoorW.PrintWords Go.Proofs.YtbkglcehcjlmgaaDoorW.PrintLast Go.Proofs.YtbkglcehcjlmgaaDoorW.PrintMore

theorem is_ans (e : Option Int) (he : e = none ∨ e = some 102) : pendulumsee_Is.f e (e.getD 0) = some true := by
  rcases he with rfl | rfl <;> rfl

theorem says_l0 (x y : List S39) (a b c d : List Int) (e f : Option Int) (bad worse : Int) (hl : x.length = y.length) (hx : x.length ≤ 60)
    (last : ∀ t : Bool, t = slotsLike x y → Ans (fun k => pendulumlaw26_PlanSays.j2 k x y a e b bad c f d worse t) true) (n : Nat) :
    ∀ i : Nat, i + n = x.length → slotsLike (x.drop i) (y.drop i) = slotsLike x y → Ans (fun k => pendulumlaw26_PlanSays.l0 k x y a e b bad c f d worse true i) true := by
  have stop : slotsLike x y = false → ∀ i : Nat, Ans (fun k => pendulumlaw26_PlanSays.l0 k x y a e b bad c f d worse false i) true := fun h i =>
    Ans.succ (fun k => by simp only [pendulumlaw26_PlanSays.l0]; split <;> rfl) (last false h.symm)
  induction n with
  | zero =>
    intro i hi h
    rw [List.drop_of_length_le (by omega), List.drop_of_length_le (by omega)] at h
    exact Ans.succ (fun k => by simp only [pendulumlaw26_PlanSays.l0]; rw [if_neg (by omega)]) (last true h)
  | succ n ih =>
    intro i hi h
    have hxi : rd_T39 x (i : Int) = x.getD i z39 := rfl
    have hyi : rd_T39 y (i : Int) = y.getD i z39 := rfl
    rw [getD_drop x i z39 (by omega), getD_drop y i z39 (by omega), slotsLike] at h
    refine Ans.succ (fun k => by simp only [pendulumlaw26_PlanSays.l0, if_true]; rw [if_pos (by omega), if_pos (by omega), if_pos (by omega), up i (by omega)]; try rfl) ?_
    refine Ans.ite (fun h1 => ?_) (fun h1 => ?_)
    · cases h2 : ((rd_T39 x i).f1 == (rd_T39 y i).f1) with
      | true =>
        refine ih (i + 1) (by omega) ?_
        rwa [show slotLike (x.getD i z39) (y.getD i z39) = true from (slotLike_iff _ _).2 ⟨h1, eq_of_beq h2⟩, Bool.true_and] at h
      | false =>
        refine stop ?_ (i + 1)
        rw [← h, show slotLike (x.getD i z39) (y.getD i z39) = false from Bool.eq_false_iff.2 (fun hh => by rw [← hxi, ← hyi] at hh; rw [((slotLike_iff _ _).1 hh).2] at h2; simp at h2), Bool.false_and]
    · refine stop ?_ (i + 1)
      rw [← h, show slotLike (x.getD i z39) (y.getD i z39) = false from Bool.eq_false_iff.2 (fun hh => h1 ((slotLike_iff _ _).1 hh).1), Bool.false_and]
theorem slotsLike_len : ∀ (x y : List S39), slotsLike x y = true → x.length = y.length
  | [], [], _ => rfl
  | [], _ :: _, h => by simp [slotsLike] at h
  | _ :: _, [], h => by simp [slotsLike] at h
  | a :: x, b :: y, h => by
    rw [slotsLike, Bool.and_eq_true] at h
    simp [slotsLike_len x y h.2]

theorem PlanSays : pendulumlaw26_PlanSays.Pure := by
  intro x y l s hx _ hy _ hl _ hs _
  refine Ans.exists ?_
  unfold pendulumlaw26_PlanSays.f
  refine Ans.bind first_ans ?_
  refine Ans.ite_pos rfl ?_
  have skip : Ans (fun k => pendulumlaw26_PlanSays.j0 k x y l s true true) true := Ans.succ (fun k => by simp only [pendulumlaw26_PlanSays.j0, if_true]) (Ans.some _)
  obtain ⟨b0, hb0, hx60⟩ := slots_ans x (by omega)
  obtain ⟨b1, hb1, hy60⟩ := slots_ans y (by omega)
  refine Ans.bind hb0 ?_
  refine Ans.ite (fun h0 => ?_) (fun _ => skip)
  refine Ans.bind hb1 ?_
  refine Ans.ite (fun h1 => ?_) (fun _ => skip)
  refine Ans.ite (fun _ => skip) (fun h2 => ?_)
  refine Ans.ite (fun _ => skip) (fun h3 => ?_)
  have hx60 := hx60 h0
  have hy60 := hy60 h1
  obtain ⟨p, hp⟩ : ∃ p, (List.range' 0 y.length).map (fun i => mv x i (rd_T39 y i)) = p := ⟨_, rfl⟩
  have hpl : p.length = y.length := by rw [← hp]; simp
  have hOf := of_ans x y (by omega)
  have hPlan := plan_ans x y (by omega) (by omega)
  rw [hp] at hOf hPlan
  obtain ⟨a, e, hA, hA', he, hal⟩ := do_ans l s (by omega)
  obtain ⟨c, f, hC, hC', hf, hcl⟩ := do_ans p s (by omega)
  have last : ∀ t : Bool, t = slotsLike x y → Ans (fun k => pendulumlaw26_PlanSays.j2 k x y a e a (e.getD 0) c f c (f.getD 0) t) true := by
    intro t ht
    refine Ans.succ (fun k => by simp only [pendulumlaw26_PlanSays.j2]; rfl) ?_
    refine Ans.bind (sameLongs_ans a (by omega)) ?_
    refine Ans.ite_pos rfl ?_
    refine Ans.bind (Ans.of_eq fun _ => is_ans e he) ?_
    refine Ans.ite_pos rfl ?_
    refine Ans.bind (sameLongs_ans c (by omega)) ?_
    refine Ans.ite_pos rfl ?_
    refine Ans.bind (Ans.of_eq fun _ => is_ans f hf) ?_
    refine Ans.ite_pos rfl ?_
    exact Ans.of_eq fun _ => by simp [plan_Same.f, plan_Alike.f, ht]
  refine Ans.succ (fun k => by simp only [pendulumlaw26_PlanSays.j0]; rfl) ?_
  refine Ans.ite_neg (by simp) ?_
  refine Ans.bind hOf ?_
  refine Ans.bind hPlan ?_
  refine Ans.bind (sameMoves_ans p (by omega)) ?_
  refine Ans.ite_pos rfl ?_
  refine Ans.bind hA ?_
  refine Ans.bind (moves_ans l (by omega)) ?_
  refine Ans.bind hA' ?_
  refine Ans.bind hC ?_
  refine Ans.bind (moves_ans p (by omega)) ?_
  refine Ans.bind hC' ?_
  by_cases hxy : x.length = y.length
  · have hb : ((x.length : Int) == (y.length : Int)) = true := by rw [hxy]; simp
    rw [hb]
    exact says_l0 x y a a c c e f _ _ hxy hx60 last x.length 0 (by omega) rfl
  · have hb : ((x.length : Int) == (y.length : Int)) = false := by rw [beq_eq_false_iff_ne]; omega
    have hne : slotsLike x y = false := Bool.eq_false_iff.2 fun h => hxy (slotsLike_len x y h)
    rw [hb]
    exact Ans.succ (fun k => by simp only [pendulumlaw26_PlanSays.l0]; split <;> rfl) (last false hne.symm)
end Go.Proofs.YtbkglcehcjlmgaaDoor.Pure
