/- What the functions of package plan, and the document's, answer, in plain words. -/
import Derived.Test.YtbkglcehcjlmgaaDoorKPlanR
import Derived.Test.YtbkglcehcjlmgaaDoorPl
set_option linter.unusedSimpArgs false
namespace Go.Proofs.YtbkglcehcjlmgaaDoor.PlanA
open Go.RowKit Go.Proofs.YtbkglcehcjlmgaaDoor.KPlan Go.Proofs.YtbkglcehcjlmgaaDoor.Pl Go.Proofs.YtbkglcehcjlmgaaDoorW.PrintWords Go.Proofs.YtbkglcehcjlmgaaDoorW.PrintLast Go.Proofs.YtbkglcehcjlmgaaDoorW.PrintMore

theorem first_ans : Ans (fun k => pendulumlaw26_first.f k) true := Ans.of_mono (m := 1000) pendulumlaw26_first.mono (by kernel_rfl)

theorem slots_l0 (x : List S39) (hx : x.length < 4611686018427387904) (d : Nat) : ∀ i : Nat, i + d = x.length → ∃ b, Ans (fun k => pendulumworld_Slots.l0 k x i) b ∧ (b = true → x.length ≤ 60) := by
  induction d with
  | zero =>
    intro i hi
    exact ⟨decide ((x.length : Int) ≤ 60), Ans.succ (fun k => by simp only [pendulumworld_Slots.l0]; rw [if_neg (by omega)]) (Ans.some _), fun h => by have := of_decide_eq_true h; omega⟩
  | succ d ih =>
    intro i hi
    obtain ⟨b, hb, hl⟩ := ih (i + 1) (by omega)
    by_cases h : (((rd_T39 x (i : Int)).f0).size : Int) > 100
    · exact ⟨false, Ans.succ (fun k => by simp only [pendulumworld_Slots.l0]; rw [if_pos (by omega), if_pos (by omega), if_pos h]) (Ans.some _), fun h => by cases h⟩
    · exact ⟨b, Ans.succ (fun k => by simp only [pendulumworld_Slots.l0]; rw [if_pos (by omega), if_pos (by omega), if_neg h, up i (by omega)]) hb, hl⟩
theorem slots_ans (x : List S39) (hx : x.length < 4611686018427387904) : ∃ b, Ans (fun k => pendulumworld_Slots.f k x) b ∧ (b = true → x.length ≤ 60) := slots_l0 x hx x.length 0 (by omega)

/-- A move, as the document has it. -/
def conv (m : S56) : S59 := ⟨m.f0, m.f1, m.f2⟩
/-- Where a cell has its value from. -/
def mv (x : List S39) (i : Nat) (s : S39) : S56 := if slotPlace x s < 0 then ⟨i, -1, s.f2⟩ else ⟨i, slotPlace x s, 0⟩

theorem of_ans (x y : List S39) (hy : y.length < 5864062014805) : Ans (fun k => plan_Of.f k x y) ((List.range' 0 y.length).map fun i => mv x i (rd_T39 y i)) := by
  have := app_loop (L := fun k acc i => plan_Of.l0 k x acc y y.length i) (n := y.length) (f := fun i => mv x i (rd_T39 y i)) (fin := id) (Nat.le_refl _) (fun k acc i hi ha => by
      simp only [plan_Of.l0, plan_Place.f, Option.bind_some]
      rw [if_pos (by omega), if_pos (by omega), if_pos (by omega)]
      unfold mv
      split
      · rw [if_pos (by omega), up i (by omega)]
      · rw [if_pos (by omega), up i (by omega)])
    (fun k acc => by simp only [plan_Of.l0]; rw [if_neg (by omega)]; rfl) y.length 0 [] (by omega) rfl
  rw [List.nil_append] at this
  exact this

theorem slotLike_iff (a b : S39) : slotLike a b = true ↔ a.f0.toList = b.f0.toList ∧ a.f1 = b.f1 := by
  unfold slotLike
  rw [Bool.and_eq_true, beq_iff_eq, beq_iff_eq]

/-- The document's inner loop: the first that is alike. -/
theorem plan_l1 (x y : List S39) (acc : List S59) (i : Nat) (hi : i < y.length) (hx : x.length < 4611686018427387904) (r : List S59) (hacc : acc.length < 5864062014805) (d : Nat) : ∀ j : Nat, j + d = x.length →
    (∀ q, q < j → slotLike (x.getD q z39) (rd_T39 y i) = false) →
    Ans (fun k => pendulumref17_Plan.l0 k x y (acc ++ [conv (mv x i (rd_T39 y i))]) (wrap64 ((i : Int) + 1))) r →
    Ans (fun k => pendulumref17_Plan.l1 k x y acc i j i (-1) ((rd_T39 y i).f2)) r := by
  induction d with
  | zero =>
    intro j hj hno h
    have hp : slotPlace x (rd_T39 y i) = -1 := by
      unfold slotPlace
      rw [List.findIdx?_eq_none_iff.2 (fun a ha => by
        obtain ⟨q, hq⟩ := List.getElem?_of_mem ha
        have hql := (List.getElem?_eq_some_iff.1 hq).1
        have := hno q (by omega)
        rwa [List.getD_eq_getElem?_getD, hq, Option.getD_some] at this)]
    refine Ans.succ (fun k => by simp only [pendulumref17_Plan.l1]; rw [if_neg (by omega)]; try rfl) ?_
    refine Ans.succ (fun k => by simp only [pendulumref17_Plan.j2]; rw [if_neg (by simp), if_pos hacc]; try rfl) ?_
    rw [mv, hp] at h
    exact h
  | succ d ih =>
    intro j hj hno h
    refine Ans.succ (fun k => by simp only [pendulumref17_Plan.l1]; rw [if_pos (by omega)]; try rfl) ?_
    refine Ans.succ (fun k => by simp only [pendulumref17_Plan.j2]; rw [if_pos (by decide), if_pos (by omega), if_pos (by omega), if_pos (by omega), if_pos (by omega)]; try rfl) ?_
    by_cases hk : slotLike (rd_T39 x j) (rd_T39 y i) = true
    · obtain ⟨h1, h2⟩ := (slotLike_iff _ _).1 hk
      refine Ans.ite_pos h1 (Ans.ite_pos h2 ?_)
      rw [up j (by omega)]
      have hp : slotPlace x (rd_T39 y i) = (j : Int) := by
        unfold slotPlace
        have hj' : j < x.length := by omega
        have hf : x.findIdx? (fun a => slotLike a (rd_T39 y i)) = some j := by
          refine List.findIdx?_eq_some_iff_getElem.2 ⟨hj', ?_, fun q hq => ?_⟩
          · have : x[j] = rd_T39 x (j : Int) := by
              unfold rd_T39
              rw [Int.toNat_natCast, List.getD_eq_getElem?_getD, List.getElem?_eq_getElem hj']
              rfl
            rw [this]; exact hk
          · have := hno q hq
            rw [List.getD_eq_getElem?_getD, List.getElem?_eq_getElem (by omega), Option.getD_some] at this
            simp [this]
        rw [hf]
      have hend : Ans (fun k => pendulumref17_Plan.j2 k x y acc i ((j + 1 : Nat) : Int) false i j 0) r := by
        refine Ans.succ (fun k => by simp only [pendulumref17_Plan.j2]; rw [if_neg (by simp), if_pos hacc]; try rfl) ?_
        rw [mv, hp, if_neg (by omega)] at h
        exact h
      refine Ans.succ (G := fun k => pendulumref17_Plan.j2 k x y acc i ((j + 1 : Nat) : Int) false i j 0) (fun k => ?_) hend
      simp only [pendulumref17_Plan.l1]
      rw [show decide ((j : Int) < 0) = false from decide_eq_false (by omega)]
      split <;> rfl
    · have next := ih (j + 1) (by omega) (fun q hq => by
        rcases Nat.lt_or_ge q j with h' | h'
        · exact hno q h'
        · obtain rfl : q = j := by omega
          exact Bool.eq_false_iff.2 hk) h
      rw [up j (by omega)]
      refine Ans.ite (fun h1 => Ans.ite_neg (fun h2 => hk ((slotLike_iff _ _).2 ⟨h1, h2⟩)) next) (fun _ => next)
theorem plan_l0 (x y : List S39) (hx : x.length < 4611686018427387904) (hy : y.length < 5864062014805) (d : Nat) : ∀ (i : Nat) (acc : List S59), i + d = y.length → acc.length = i →
    Ans (fun k => pendulumref17_Plan.l0 k x y acc i) (acc ++ (List.range' i d).map fun j => conv (mv x j (rd_T39 y j))) := by
  induction d with
  | zero =>
    intro i acc hi ha
    rw [List.range'_zero, List.map_nil, List.append_nil]
    exact Ans.succ (fun k => by simp only [pendulumref17_Plan.l0]; rw [if_neg (by omega)]) (Ans.some _)
  | succ d ih =>
    intro i acc hi ha
    refine Ans.succ (fun k => by simp only [pendulumref17_Plan.l0]; rw [if_pos (by omega), if_pos (by omega)]; try rfl) ?_
    refine plan_l1 x y acc i (by omega) hx _ (by omega) x.length 0 (by omega) (fun q hq => absurd hq (by omega)) ?_
    have := ih (i + 1) (acc ++ [conv (mv x i (rd_T39 y i))]) (by omega) (by simp [ha])
    rw [List.append_assoc, List.singleton_append, ← List.map_cons (f := fun j => conv (mv x j (rd_T39 y j))), ← List.range'_succ] at this
    rw [up i (by omega)]
    exact this
theorem plan_ans (x y : List S39) (hx : x.length < 4611686018427387904) (hy : y.length < 5864062014805) : Ans (fun k => pendulumref17_Plan.f k x y) (((List.range' 0 y.length).map fun i => mv x i (rd_T39 y i)).map conv) := by
  have := plan_l0 x y hx hy y.length 0 [] (by omega) rfl
  rw [List.nil_append] at this
  rw [List.map_map]
  exact this

theorem rd56_nat (l : List S56) (i : Nat) : rd_T56 l (i : Int) = l.getD i z56 := rfl
theorem rd59_conv (l : List S56) (i : Nat) (h : i < l.length) : rd_T59 (l.map conv) (i : Int) = conv (rd_T56 l i) := by
  show (l.map conv).getD i z59 = conv (l.getD i z56)
  rw [List.getD_eq_getElem?_getD, List.getD_eq_getElem?_getD, List.getElem?_map, List.getElem?_eq_getElem h]
  rfl
theorem sameMoves_ans (l : List S56) (hl : l.length < 4611686018427387904) : Ans (fun k => pendulumlaw26_sameMoves.f k l (l.map conv)) true := by
  have := all_loop (L := fun k i => pendulumlaw26_sameMoves.l0 k l (l.map conv) i) (n := l.length) (p := fun _ => true) (fun k i hi => by
      simp only [pendulumlaw26_sameMoves.l0]
      have h := rd59_conv l i hi
      rw [if_pos (by omega), if_pos (by omega), if_pos (by simpa using hi), if_pos (by rw [h]; rfl), if_pos (by rw [h]; rfl), if_pos (by rw [h]; rfl), up i (by omega), if_true])
    (fun k => by simp only [pendulumlaw26_sameMoves.l0]; rw [if_neg (by omega)]) l.length 0 (by omega)
  rw [show (List.range' 0 l.length).all (fun _ => true) = true by simp] at this
  exact this.congr fun k => by unfold pendulumlaw26_sameMoves.f; rw [if_pos (by simp)]; rfl
theorem moves_ans (l : List S56) (hl : l.length < 5864062014805) : Ans (fun k => pendulumlaw26_moves.f k l) (l.map conv) := by
  have := app_loop (L := fun k acc i => pendulumlaw26_moves.l0 k l acc i) (n := l.length) (f := fun i => conv (l.getD i z56)) (fin := id) (Nat.le_refl _) (fun k acc i hi ha => by
      simp only [pendulumlaw26_moves.l0]
      rw [if_pos (by omega), if_pos (by omega), if_pos (by omega), up i (by omega)]
      rfl)
    (fun k acc => by simp only [pendulumlaw26_moves.l0]; rw [if_neg (by omega)]; rfl) l.length 0 [] (by omega) rfl
  rw [List.nil_append, map_range_getD] at this
  exact this
theorem sameLongs_ans (x : List Int) (hx : x.length < 4611686018427387904) : Ans (fun k => pendulumref_SameLongs.f k x x) true := by
  refine Ans.congr (G := fun k => pendulumref_SameLongs.l0 k x x ((0 : Nat) : Int)) ?_ (fun k => by unfold pendulumref_SameLongs.f; rw [if_pos rfl]; rfl)
  have := eq_loop (L := fun k i => pendulumref_SameLongs.l0 k x x i) rfl hx (fun k i hi => by simp only [pendulumref_SameLongs.l0]; rw [if_pos (by omega), if_pos (by omega), if_pos (by omega), if_true, if_true, up i (by omega)])
    (fun k => by simp only [pendulumref_SameLongs.l0]; rw [if_neg (by omega)]) x.length 0 (by omega)
  simpa using this

/-- Both do a plan alike. -/
theorem do_both (l : List S56) (s : List Int) (hl : l.length < 5864062014805) (d : Nat) : ∀ (i : Nat) (acc : List Int), i + d = l.length → acc.length = i →
    ∃ a e, Ans (fun k => plan_Do.l0 k s acc l l.length i) (a, e) ∧ Ans (fun k => pendulumref17_Do.l0 k (l.map conv) s acc i) (a, e.getD 0) ∧ (e = none ∨ e = some 102) ∧ a.length ≤ l.length := by
  have bad : ∀ (i : Nat) (acc : List Int) (p q r : Int), Ans (fun k => plan_Do.j1 k s acc l l.length i true p q r) ([], some 102) := fun i acc p q r => Ans.succ (fun k => by simp only [plan_Do.j1, if_true]) (Ans.some _)
  have bad' : ∀ (i : Nat) (acc : List Int), Ans (fun k => pendulumref17_Do.j1 k (l.map conv) s acc i true) ([], 102) := fun i acc => Ans.succ (fun k => by simp only [pendulumref17_Do.j1, if_true]) (Ans.some _)
  induction d with
  | zero =>
    intro i acc hi ha
    exact ⟨acc, none, Ans.succ (fun k => by simp only [plan_Do.l0]; rw [if_neg (by omega)]) (Ans.some _), Ans.succ (fun k => by simp only [pendulumref17_Do.l0]; rw [if_neg (by simp; omega)]; rfl) (Ans.some _), .inl rfl, by omega⟩
  | succ d ih =>
    intro i acc hi ha
    have hc := rd59_conv l i (by omega)
    have hc0 : (rd_T59 (l.map conv) (i : Int)).f0 = (rd_T56 l i).f0 := by rw [hc]; rfl
    have hc1 : (rd_T59 (l.map conv) (i : Int)).f1 = (rd_T56 l i).f1 := by rw [hc]; rfl
    have hc2 : (rd_T59 (l.map conv) (i : Int)).f2 = (rd_T56 l i).f2 := by rw [hc]; rfl
    by_cases h0 : (rd_T56 l i).f0 = i
    · by_cases h1 : (rd_T56 l i).f1 < -1
      · exact ⟨[], some 102, Ans.succ (fun k => by simp only [plan_Do.l0]; rw [if_pos (by omega), if_pos (by omega), if_pos (by omega), if_pos h0, if_pos h1]; try rfl) (bad i acc _ _ _),
          Ans.succ (fun k => by simp only [pendulumref17_Do.l0, hc0, hc1, hc2]; rw [if_pos (by simp; omega), if_pos (by omega), if_pos h0, if_pos h1]; try rfl) (bad' i acc), .inr rfl, by simp⟩
      · by_cases h2 : (rd_T56 l i).f1 ≥ (s.length : Int)
        · refine ⟨[], some 102, Ans.succ (G := fun k => plan_Do.j1 k s acc l l.length i true ((rd_T56 l i).f0) ((rd_T56 l i).f1) ((rd_T56 l i).f2)) (fun k => by simp only [plan_Do.l0]; rw [if_pos (by omega), if_pos (by omega), if_pos (by omega), if_pos h0, if_neg h1, decide_eq_true h2]) (bad i acc _ _ _),
            Ans.succ (G := fun k => pendulumref17_Do.j1 k (l.map conv) s acc i true) (fun k => ?_) (bad' i acc), .inr rfl, by simp⟩
          simp only [pendulumref17_Do.l0, hc0, hc1, hc2]
          rw [if_pos (by simp; omega), if_pos (by omega), if_pos h0, if_neg h1, show decide ((rd_T56 l i).f1 ≥ (s.length : Int)) = true from decide_eq_true h2]
        · have far : ∀ v, (((rd_T56 l i).f1 = -1 ∧ v = (rd_T56 l i).f2) ∨ (0 ≤ (rd_T56 l i).f1 ∧ v = rd s (rd_T56 l i).f1)) → ∃ a e, Ans (fun k => plan_Do.l0 k s acc l l.length i) (a, e) ∧ Ans (fun k => pendulumref17_Do.l0 k (l.map conv) s acc i) (a, e.getD 0) ∧ (e = none ∨ e = some 102) ∧ a.length ≤ l.length := by
            intro v hv
            obtain ⟨a, e, hA, hB, he, hal⟩ := ih (i + 1) (acc ++ [v]) (by omega) (by simp [ha])
            refine ⟨a, e, ?_, ?_, he, hal⟩
            · refine Ans.succ (G := fun k => plan_Do.j1 k s acc l l.length i false ((rd_T56 l i).f0) ((rd_T56 l i).f1) ((rd_T56 l i).f2)) (fun k => by simp only [plan_Do.l0]; rw [if_pos (by omega), if_pos (by omega), if_pos (by omega), if_pos h0, if_neg h1, decide_eq_false h2]) ?_
              refine Ans.succ (fun k => ?_) hA
              simp only [plan_Do.j1]
              rw [if_neg (by simp)]
              rcases hv with ⟨hv, rfl⟩ | ⟨hv, rfl⟩
              · rw [if_pos hv, if_pos (by omega), up i (by omega)]
              · rw [if_neg (by omega), if_pos hv, if_pos (by omega), if_pos (by omega), up i (by omega)]
            · refine Ans.succ (G := fun k => pendulumref17_Do.j1 k (l.map conv) s acc i false) (fun k => ?_) ?_
              · simp only [pendulumref17_Do.l0, hc0, hc1, hc2]
                rw [if_pos (by simp; omega), if_pos (by omega), if_pos h0, if_neg h1, show decide ((rd_T56 l i).f1 ≥ (s.length : Int)) = false from decide_eq_false h2]
              · refine Ans.succ (fun k => ?_) hB
                simp only [pendulumref17_Do.j1, hc0, hc1, hc2]
                rw [if_neg (by simp), if_pos (by omega), if_pos (by simp; omega)]
                rcases hv with ⟨hv, rfl⟩ | ⟨hv, rfl⟩
                · rw [if_neg (by omega), if_pos (by omega), up i (by omega)]
                · rw [if_pos hv, if_pos hv, if_pos (by omega), if_pos (by omega), up i (by omega)]
          by_cases h3 : (rd_T56 l i).f1 = -1
          · exact far _ (.inl ⟨h3, rfl⟩)
          · exact far _ (.inr ⟨by omega, rfl⟩)
    · exact ⟨[], some 102, Ans.succ (fun k => by simp only [plan_Do.l0]; rw [if_pos (by omega), if_pos (by omega), if_pos (by omega), if_neg h0]; try rfl) (bad i acc _ _ _),
        Ans.succ (fun k => by simp only [pendulumref17_Do.l0, hc0, hc1, hc2]; rw [if_pos (by simp; omega), if_pos (by omega), if_neg h0]; try rfl) (bad' i acc), .inr rfl, by simp⟩
theorem do_ans (l : List S56) (s : List Int) (hl : l.length < 5864062014805) : ∃ a e, Ans (fun k => plan_Do.f k l s) (a, e) ∧ Ans (fun k => pendulumref17_Do.f k (l.map conv) s) (a, e.getD 0) ∧ (e = none ∨ e = some 102) ∧ a.length ≤ l.length := do_both l s hl l.length 0 [] (by omega) rfl
end Go.Proofs.YtbkglcehcjlmgaaDoor.PlanA
