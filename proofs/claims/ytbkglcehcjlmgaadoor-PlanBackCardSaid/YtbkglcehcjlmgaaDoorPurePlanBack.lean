/- PlanBack, in plain words. -/
import Derived.Test.YtbkglcehcjlmgaaDoorKBackR
import Derived.Test.YtbkglcehcjlmgaaDoorPl
set_option linter.unusedSimpArgs false
set_option linter.unusedVariables false
namespace Go.Proofs.YtbkglcehcjlmgaaDoor.PlanB
open Go.RowKit Go.Proofs.YtbkglcehcjlmgaaDoor.KBack Go.Proofs.YtbkglcehcjlmgaaDoor.Pl Go.Proofs.YtbkglcehcjlmgaaDoorW.PrintWords Go.Proofs.YtbkglcehcjlmgaaDoorW.PrintLast Go.Proofs.YtbkglcehcjlmgaaDoorW.PrintMore

theorem first_ans : Ans (fun k => pendulumlaw26_first.f k) true := Ans.of_mono (m := 1000) pendulumlaw26_first.mono (by kernel_rfl)
theorem slots_l0 (x : List S39) (hx : x.length < 4611686018427387904) (d : Nat) : ∀ i : Nat, i + d = x.length → ∃ b, Ans (fun k => pendulumworld_Slots.l0 k x i) b ∧ (b = true → x.length ≤ 60) := by
  induction d with
  | zero =>
    intro i hi
    exact ⟨decide ((x.length : Int) ≤ 60), Ans.succ (fun k => by simp only [pendulumworld_Slots.l0]; rw [if_neg (by omega)]) (Ans.some _), fun h => by have := of_decide_eq_true h; omega⟩
  | succ d ih =>
    intro i hi
    obtain ⟨b, hb, hl⟩ := ih (i + 1) (by omega)
    by_cases h : (((rd_T39 x (i : Int)).f0).size : Int) > 100
    · exact ⟨false, Ans.succ (fun k => by simp only [pendulumworld_Slots.l0]; rw [if_pos (by omega), if_pos (by omega), if_pos h]) (Ans.some _), fun h => by cases h⟩
    · exact ⟨b, Ans.succ (fun k => by simp only [pendulumworld_Slots.l0]; rw [if_pos (by omega), if_pos (by omega), if_neg h, up i (by omega)]) hb, hl⟩
theorem slots_ans (x : List S39) (hx : x.length < 4611686018427387904) : ∃ b, Ans (fun k => pendulumworld_Slots.f k x) b ∧ (b = true → x.length ≤ 60) := slots_l0 x hx x.length 0 (by omega)

/-- Where a cell has its value from. -/
def mv (x : List S39) (i : Nat) (s : S39) : S56 := if slotPlace x s < 0 then ⟨i, -1, s.f2⟩ else ⟨i, slotPlace x s, 0⟩
theorem of_ans (x y : List S39) (hy : y.length < 5864062014805) : Ans (fun k => plan_Of.f k x y) ((List.range' 0 y.length).map fun (i : Nat) => mv x i (rd_T39 y i)) := by
  have := app_loop (L := fun k acc i => plan_Of.l0 k x acc y y.length i) (n := y.length) (f := fun (i : Nat) => mv x i (rd_T39 y i)) (fin := id) (Nat.le_refl _) (fun k acc i hi ha => by
      simp only [plan_Of.l0, plan_Place.f, Option.bind_some]
      rw [if_pos (by omega), if_pos (by omega), if_pos (by omega)]
      unfold mv
      split
      · rw [if_pos (by omega), up i (by omega)]
      · rw [if_pos (by omega), up i (by omega)])
    (fun k acc => by simp only [plan_Of.l0]; rw [if_neg (by omega)]; rfl) y.length 0 [] (by omega) rfl
  rw [List.nil_append] at this
  exact this

theorem slotLike_iff (a b : S39) : slotLike a b = true ↔ a.f0.toList = b.f0.toList ∧ a.f1 = b.f1 := by
  unfold slotLike
  rw [Bool.and_eq_true, beq_iff_eq, beq_iff_eq]
theorem like_trans {a b c : S39} (h : slotLike a b = true) : slotLike b c = slotLike a c := by
  obtain ⟨h1, h2⟩ := (slotLike_iff _ _).1 h
  unfold slotLike
  rw [h1, h2]
theorem place_none {x : List S39} {s : S39} (h : ∀ q, q < x.length → slotLike (x.getD q z39) s = false) : slotPlace x s = -1 := by
  unfold slotPlace
  rw [List.findIdx?_eq_none_iff.2 (fun a ha => by
    obtain ⟨q, hq⟩ := List.getElem?_of_mem ha
    have := h q (List.getElem?_eq_some_iff.1 hq).1
    rwa [List.getD_eq_getElem?_getD, hq, Option.getD_some] at this)]
theorem place_at {x : List S39} {s : S39} {j : Nat} (hj : j < x.length) (hk : slotLike (x.getD j z39) s = true) (h : ∀ q, q < j → slotLike (x.getD q z39) s = false) : slotPlace x s = (j : Int) := by
  unfold slotPlace
  have hf : x.findIdx? (fun a => slotLike a s) = some j := by
    refine List.findIdx?_eq_some_iff_getElem.2 ⟨hj, ?_, fun q hq => ?_⟩
    · rw [List.getD_eq_getElem?_getD, List.getElem?_eq_getElem hj, Option.getD_some] at hk; exact hk
    · have := h q hq
      rw [List.getD_eq_getElem?_getD, List.getElem?_eq_getElem (by omega), Option.getD_some] at this
      simp [this]
  rw [hf]
/-- Either none is alike, or the place is the first that is. -/
theorem place_cases (x : List S39) (s : S39) : (slotPlace x s = -1 ∧ ∀ q, q < x.length → slotLike (x.getD q z39) s = false) ∨
    ∃ j, j < x.length ∧ slotPlace x s = (j : Nat) ∧ slotLike (x.getD j z39) s = true ∧ ∀ q, q < j → slotLike (x.getD q z39) s = false := by
  by_cases h : ∃ j, j < x.length ∧ slotLike (x.getD j z39) s = true
  · obtain ⟨j, hj⟩ := h
    induction j using Nat.strongRecOn with
    | ind j ih =>
      by_cases h2 : ∃ q, q < j ∧ slotLike (x.getD q z39) s = true
      · obtain ⟨q, hq, hq2⟩ := h2
        exact ih q hq ⟨by omega, hq2⟩
      · have h3 : ∀ q, q < j → slotLike (x.getD q z39) s = false := fun q hq => Bool.eq_false_iff.2 fun e => h2 ⟨q, hq, e⟩
        exact .inr ⟨j, hj.1, place_at hj.1 hj.2 h3, hj.2, h3⟩
  · have h3 : ∀ q, q < x.length → slotLike (x.getD q z39) s = false := fun q hq => Bool.eq_false_iff.2 fun e => h ⟨q, hq, e⟩
    exact .inl ⟨place_none h3, h3⟩

/-- What a cell is, of the memory s. -/
def cell (x : List S39) (s : List Int) (c : S39) : Int := if slotPlace x c < 0 then c.f2 else rd s (slotPlace x c)
theorem do_of (x y : List S39) (s : List Int) (hs : s.length = x.length) (hy : y.length < 5864062014805) :
    Ans (fun k => plan_Do.f k ((List.range' 0 y.length).map fun (i : Nat) => mv x i (rd_T39 y i)) s) ((List.range' 0 y.length).map fun (i : Nat) => cell x s (rd_T39 y i), none) := by
  obtain ⟨p, hp⟩ : ∃ p, (List.range' 0 y.length).map (fun (i : Nat) => mv x i (rd_T39 y i)) = p := ⟨_, rfl⟩
  have hpl : p.length = y.length := by rw [← hp]; simp
  have hpi : ∀ i, i < y.length → rd_T56 p (i : Int) = mv x i (rd_T39 y i) := fun i hi => by
    show p.getD i z56 = _
    rw [← hp, List.getD_eq_getElem?_getD, List.getElem?_map, List.getElem?_eq_getElem (by simpa using hi)]
    simp
  rw [hp]
  have run := app_run (L := fun k acc i => plan_Do.l0 k s acc p p.length i) (n := y.length) (f := fun (i : Nat) => cell x s (rd_T39 y i)) (r := ((List.range' 0 y.length).map fun (i : Nat) => cell x s (rd_T39 y i), (none : Option Int)))
    (fun acc i hi ha next => by
      have hm := hpi i hi
      rcases place_cases x (rd_T39 y i) with ⟨h1, _⟩ | ⟨j, hj, h1, _, _⟩
      · have hmv : mv x i (rd_T39 y i) = ⟨i, -1, (rd_T39 y i).f2⟩ := by unfold mv; rw [h1]; rfl
        have hc : cell x s (rd_T39 y i) = (rd_T39 y i).f2 := by unfold cell; rw [h1]; rfl
        rw [hc] at next
        rw [hmv] at hm
        refine Ans.succ (G := fun k => plan_Do.j1 k s acc p p.length i false i (-1) ((rd_T39 y i).f2)) (fun k => ?_) (Ans.succ (fun k => ?_) next)
        · simp only [plan_Do.l0, hm]
          rw [if_pos (by omega), if_pos (by omega), if_pos (by omega), if_true, if_neg (by omega), decide_eq_false (by omega)]
        · simp only [plan_Do.j1]
          rw [if_neg (by simp), if_true, if_pos (by omega), up i (by omega)]
      · have hmv : mv x i (rd_T39 y i) = ⟨i, j, 0⟩ := by unfold mv; rw [h1, if_neg (by omega)]
        have hc : cell x s (rd_T39 y i) = rd s j := by unfold cell; rw [h1, if_neg (by omega)]
        rw [hc] at next
        rw [hmv] at hm
        refine Ans.succ (G := fun k => plan_Do.j1 k s acc p p.length i false i j 0) (fun k => ?_) (Ans.succ (fun k => ?_) next)
        · simp only [plan_Do.l0, hm]
          rw [if_pos (by omega), if_pos (by omega), if_pos (by omega), if_true, if_neg (by omega), decide_eq_false (by omega)]
        · simp only [plan_Do.j1]
          rw [if_neg (by simp), if_neg (by omega), if_pos (by omega), if_pos (by omega), if_pos (by omega), up i (by omega)])
    y.length 0 [] (by omega) rfl (Ans.succ (fun k => by simp only [plan_Do.l0]; rw [if_neg (by omega), List.nil_append]) (Ans.some _))
  refine run.congr fun k => ?_
  unfold plan_Do.f; rfl

theorem cell_eq (x y : List S39) (s : List Int) (hs : s.length = x.length) (i : Nat) (hi : i < x.length) (b : List Int) (hb : b = (List.range' 0 x.length).map fun (i : Nat) => cell y ((List.range' 0 y.length).map fun (j : Nat) => cell x s (rd_T39 y j)) (rd_T39 x i)) :
    rd b i = if y.any (fun c => slotLike c (x.getD i z39)) = true then rd s (slotPlace x (x.getD i z39)) else (x.getD i z39).f2 := by
  have hxi : rd_T39 x (i : Int) = x.getD i z39 := rfl
  have e : rd b i = cell y ((List.range' 0 y.length).map fun (j : Nat) => cell x s (rd_T39 y j)) (x.getD i z39) := by
    rw [rd_nat, hb, List.getD_eq_getElem?_getD, List.getElem?_map, List.getElem?_eq_getElem (by simpa using hi)]
    simp [hxi]
  rw [e]
  rcases place_cases y (x.getD i z39) with ⟨h1, h2⟩ | ⟨j, hj, h1, h2, _⟩
  · have hany : y.any (fun c => slotLike c (x.getD i z39)) = false := by
      rw [List.any_eq_false]
      intro a ha
      obtain ⟨q, hq⟩ := List.getElem?_of_mem ha
      have := h2 q (List.getElem?_eq_some_iff.1 hq).1
      rw [List.getD_eq_getElem?_getD, hq, Option.getD_some] at this
      rw [this]; simp
    rw [hany, if_neg (by simp)]
    unfold cell
    rw [h1]; rfl
  · have hany : y.any (fun c => slotLike c (x.getD i z39)) = true := List.any_eq_true.2 ⟨_, getD_mem y j z39 hj, h2⟩
    rw [hany, if_pos rfl]
    have hyj : rd_T39 y (j : Int) = y.getD j z39 := rfl
    have e2 : cell y ((List.range' 0 y.length).map fun (j : Nat) => cell x s (rd_T39 y j)) (x.getD i z39) = cell x s (y.getD j z39) := by
      unfold cell
      rw [h1, if_neg (by omega), rd_nat, List.getD_eq_getElem?_getD, List.getElem?_map, List.getElem?_eq_getElem (by simpa using hj)]
      simp [hyj]
    rw [e2]
    have hp : slotPlace x (y.getD j z39) = slotPlace x (x.getD i z39) := by
      unfold slotPlace
      have : (fun a => slotLike a (y.getD j z39)) = fun a => slotLike a (x.getD i z39) := by
        funext a
        obtain ⟨h3, h4⟩ := (slotLike_iff _ _).1 h2
        unfold slotLike
        rw [h3, h4]
      rw [this]
    unfold cell
    rw [hp]
    rcases place_cases x (x.getD i z39) with ⟨_, h3⟩ | ⟨q, _, h3, _⟩
    · have := h3 i hi
      rw [(slotLike_iff _ _).2 ⟨rfl, rfl⟩] at this
      cases this
    · rw [h3, if_neg (by omega)]

theorem down (j : Nat) (h : j < 4611686018427387904) : wrap64 (((j : Nat) : Int) - 1) = (j : Int) - 1 := by unfold wrap64; omega
theorem down' (j : Nat) (h : j < 4611686018427387904) : wrap64 ((((j + 1 : Nat) : Int) - 1) - 1) = (j : Int) - 1 := by unfold wrap64; omega

/-- Is one alike? -/
theorem back_l3 (x y : List S39) (m b : List Int) (i f : Nat) (hi : i < x.length) (hy : y.length ≤ 60) (t : Bool) (ht : t = y.any (fun c => slotLike c (x.getD i z39)))
    (hend : Ans (fun k => pendulumlaw26_PlanBack.l3 k x y m b i f t (y.length : Nat)) true) (d : Nat) : ∀ (j : Nat) (u : Bool), j + d = y.length → (u || (y.drop j).any (fun c => slotLike c (x.getD i z39))) = t →
    Ans (fun k => pendulumlaw26_PlanBack.l3 k x y m b i f u j) true := by
  induction d with
  | zero =>
    intro j u hj hu
    obtain rfl : j = y.length := by omega
    rw [List.drop_of_length_le (Nat.le_refl _), List.any_nil, Bool.or_false] at hu
    rw [hu]; exact hend
  | succ d ih =>
    intro j u hj hu
    have hxi : rd_T39 x (i : Int) = x.getD i z39 := rfl
    have hyj : rd_T39 y (j : Int) = y.getD j z39 := rfl
    rw [getD_drop y j z39 (by omega), List.any_cons] at hu
    refine Ans.succ (fun k => by simp only [pendulumlaw26_PlanBack.l3]; rw [if_pos (by omega), up j (by omega)]) ?_
    cases u with
    | true => exact Ans.ite_pos rfl (ih (j + 1) true (by omega) (by simpa using hu))
    | false =>
      refine Ans.ite_neg (by simp) (Ans.ite_pos (by omega) (Ans.ite_pos (by omega) (Ans.ite_pos (by omega) ?_)))
      rw [Bool.false_or] at hu
      refine Ans.ite (fun h => ?_) (fun h => ?_)
      · refine ih (j + 1) _ (by omega) ?_
        rw [← hu, hyj, hxi]
        congr 1
        rw [hyj, hxi] at h
        unfold slotLike
        rw [h]; simp
      · refine ih (j + 1) _ (by omega) ?_
        rw [← hu]
        congr 1
        rw [hyj, hxi] at h
        unfold slotLike
        rw [beq_eq_false_iff_ne.2 h]; rfl
/-- The first that is alike. -/
theorem back_l2 (x y : List S39) (m b : List Int) (i : Nat) (hi : i < x.length) (hx : x.length ≤ 60)
    (hend : ∀ f : Nat, slotPlace x (x.getD i z39) = (f : Int) → Ans (fun k => pendulumlaw26_PlanBack.l3 k x y m b i f false 0) true) : ∀ (j f : Nat), j ≤ f → f ≤ i → slotLike (x.getD f z39) (x.getD i z39) = true →
    (∀ q, j ≤ q → q < f → slotLike (x.getD q z39) (x.getD i z39) = false) → Ans (fun k => pendulumlaw26_PlanBack.l2 k x y m b i f ((j : Int) - 1)) true := by
  intro j
  induction j with
  | zero =>
    intro f h1 h2 h3 h4
    exact Ans.succ (fun k => by simp only [pendulumlaw26_PlanBack.l2]; rw [if_neg (by omega)]) (hend f (place_at (by omega) h3 (fun q hq => h4 q (by omega) hq)))
  | succ j ih =>
    intro f h1 h2 h3 h4
    have hxi : rd_T39 x (i : Int) = x.getD i z39 := rfl
    have hxj : rd_T39 x (((j + 1 : Nat) : Int) - 1) = x.getD j z39 := by
      unfold rd_T39
      rw [show (((j + 1 : Nat) : Int) - 1).toNat = j by omega]
    refine Ans.succ (fun k => by simp only [pendulumlaw26_PlanBack.l2, hxi, hxj]; rw [if_pos (by omega), if_pos (by omega), if_pos (by omega), if_pos (by omega), if_pos (by omega), down' j (by omega)]) ?_
    by_cases hk : slotLike (x.getD j z39) (x.getD i z39) = true
    · obtain ⟨a1, a2⟩ := (slotLike_iff _ _).1 hk
      refine Ans.ite_pos a1 (Ans.ite_pos a2 ?_)
      rw [show (((j + 1 : Nat) : Int) - 1) = (j : Int) by omega]
      exact ih j (Nat.le_refl _) (by omega) hk (fun q hq hq2 => absurd hq (by omega))
    · have next := ih f (by omega) h2 h3 (fun q hq hq2 => by
        rcases Nat.lt_or_ge q (j + 1) with h | h
        · obtain rfl : q = j := by omega
          exact Bool.eq_false_iff.2 hk
        · exact h4 q h hq2)
      exact Ans.ite (fun b1 => Ans.ite_neg (fun b2 => hk ((slotLike_iff _ _).2 ⟨b1, b2⟩)) next) (fun _ => next)
theorem back_l1 (x y : List S39) (m b : List Int) (hx : x.length ≤ 60) (hy : y.length ≤ 60) (hm : m.length = x.length) (hbl : b.length = x.length)
    (hb : ∀ i, i < x.length → rd b (i : Int) = if y.any (fun c => slotLike c (x.getD i z39)) = true then rd m (slotPlace x (x.getD i z39)) else (x.getD i z39).f2) (d : Nat) :
    ∀ i : Nat, i + d = x.length → Ans (fun k => pendulumlaw26_PlanBack.l1 k x y m b i) true := by
  induction d with
  | zero =>
    intro i hi
    exact Ans.succ (fun k => by simp only [pendulumlaw26_PlanBack.l1]; rw [if_neg (by omega)]) (Ans.some _)
  | succ d ih =>
    intro i hi
    have hxi : rd_T39 x (i : Int) = x.getD i z39 := rfl
    refine Ans.succ (fun k => by simp only [pendulumlaw26_PlanBack.l1]; rw [if_pos (by omega), down i (by omega)]) ?_
    refine back_l2 x y m b i (by omega) hx (fun f hf => ?_) i i (Nat.le_refl _) (Nat.le_refl _) ((slotLike_iff _ _).2 ⟨rfl, rfl⟩) (fun q h1 h2 => absurd h1 (by omega))
    have hb := hb i (by omega)
    rw [hf] at hb
    have hfl : f < x.length := by
      rcases place_cases x (x.getD i z39) with ⟨h, _⟩ | ⟨q, hq, h, _⟩ <;> rw [hf] at h <;> omega
    refine back_l3 x y m b i f (by omega) hy _ rfl ?_ y.length 0 false (by omega) (by simp)
    have next := ih (i + 1) (by omega)
    refine Ans.succ (fun k => by simp only [pendulumlaw26_PlanBack.l3]; rw [if_neg (by omega), if_pos (by omega), if_pos (by omega), up i (by omega)]) ?_
    refine Ans.ite (fun h => ?_) (fun h => ?_)
    · rw [if_pos h] at hb
      exact Ans.ite_pos (by omega) (Ans.ite_pos (by omega) (Ans.ite_pos (by omega) (Ans.ite_pos hb next)))
    · rw [if_neg h] at hb
      exact Ans.ite_pos (by omega) (Ans.ite_pos (by rw [hxi]; exact hb) next)

theorem PlanBack : pendulumlaw26_PlanBack.Pure := by
  intro x y s hx _ hy _ hs _
  refine Ans.exists ?_
  unfold pendulumlaw26_PlanBack.f
  refine Ans.bind first_ans ?_
  refine Ans.ite_pos rfl ?_
  have skip : Ans (fun k => pendulumlaw26_PlanBack.j0 k x y s true true) true := Ans.succ (fun k => by simp only [pendulumlaw26_PlanBack.j0, if_true]) (Ans.some _)
  obtain ⟨b0, hb0, hx60⟩ := slots_ans x (by omega)
  obtain ⟨b1, hb1, hy60⟩ := slots_ans y (by omega)
  refine Ans.bind hb0 ?_
  refine Ans.ite (fun h0 => ?_) (fun _ => skip)
  refine Ans.bind hb1 ?_
  refine Ans.ite (fun h1 => ?_) (fun _ => skip)
  refine Ans.ite (fun _ => skip) (fun h2 => ?_)
  refine Ans.ite (fun _ => skip) (fun h3 => ?_)
  have hx60 := hx60 h0
  have hy60 := hy60 h1
  refine Ans.succ (fun k => by simp only [pendulumlaw26_PlanBack.j0]; rfl) ?_
  refine Ans.ite_neg (by simp) ?_
  have run := app_run (L := fun k acc i => pendulumlaw26_PlanBack.l0 k x y s acc i) (n := x.length) (f := fun i => if (i : Int) < (s.length : Int) then rd s i else i) (r := true)
    (fun acc i hi ha next => by
      refine Ans.succ (fun k => by simp only [pendulumlaw26_PlanBack.l0]; rw [if_pos (by omega), up i (by omega)]) ?_
      refine Ans.ite (fun h => Ans.ite_pos (by omega) (Ans.ite_pos (by omega) (by rwa [if_pos h] at next))) (fun h => Ans.ite_pos (by omega) (by rwa [if_neg h] at next)))
    x.length 0 [] (by omega) rfl
  refine run ?_
  rw [List.nil_append]
  obtain ⟨m, hm⟩ : ∃ m, (List.range' 0 x.length).map (fun (i : Nat) => if (i : Int) < (s.length : Int) then rd s i else i) = m := ⟨_, rfl⟩
  rw [hm]
  have hml : m.length = x.length := by rw [← hm]; simp
  refine Ans.succ (fun k => by simp only [pendulumlaw26_PlanBack.l0]; rw [if_neg (by omega)]) ?_
  refine Ans.bind (of_ans x y (by omega)) ?_
  refine Ans.bind (do_of x y m hml (by omega)) ?_
  refine Ans.bind (of_ans y x (by omega)) ?_
  refine Ans.bind (do_of y x _ (by simp) (by omega)) ?_
  obtain ⟨b, hb⟩ : ∃ b, (List.range' 0 x.length).map (fun (i : Nat) => cell y ((List.range' 0 y.length).map fun (i : Nat) => cell x m (rd_T39 y i)) (rd_T39 x i)) = b := ⟨_, rfl⟩
  have hbl : b.length = x.length := by rw [← hb]; simp
  refine Ans.ite_pos rfl (Ans.ite_pos rfl (Ans.ite_pos (by simp) ?_))
  rw [hb]
  have h5 : (((b, (none : Option Int)).1.length : Int) != (x.length : Int)) = false := by
    show ((b.length : Int) != (x.length : Int)) = false
    rw [hbl]; simp
  rw [h5]
  refine Ans.succ (fun k => by simp only [pendulumlaw26_PlanBack.j2]; rfl) ?_
  refine Ans.ite_neg (by simp) ?_
  exact back_l1 x y m b hx60 hy60 hml hbl (fun i hi => cell_eq x y m hml i hi b hb.symm) x.length 0 (by omega)
end Go.Proofs.YtbkglcehcjlmgaaDoor.PlanB
namespace Go.Proofs.YtbkglcehcjlmgaaDoor.Pure
theorem PlanBack : KBack.pendulumlaw26_PlanBack.Pure := PlanB.PlanBack
end Go.Proofs.YtbkglcehcjlmgaaDoor.Pure
