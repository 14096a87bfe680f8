/- DepsSays, in plain words: nodes' graph is what the chapter says. By this session. -/
import Derived.Test.YtnajjhjbkanigaaDoorDepsSaysL
namespace Go.Proofs.YtnajjhjbkanigaaDoor.Pure
open Go Go.Proofs.YtnajjhjbkanigaaDoor.Cm
open Classical
set_option linter.unusedVariables false
set_option linter.unusedSimpArgs false
set_option maxRecDepth 100000
theorem none_at {n : Nat} (hn : 5 < n) : ref_None n ((), ()) = some ((noW, ()), ()) := by
  obtain ⟨n, rfl⟩ : ∃ q, n = q + 1 := ⟨n - 1, by omega⟩
  rfl
theorem bare_at {n : Nat} (hn : 5 < n) : ref_Bare n ((103, ()), ()) = some (((103, false, false, 0, 0, ()), ()), ()) := by
  obtain ⟨n, rfl⟩ : ∃ q, n = q + 1 := ⟨n - 1, by omega⟩
  rfl
/-- All that is asked of a root, both ways. -/
theorem tail_at {n : Nat} {l : List NodeT} (h : Ok l) (x : ByteArray) (hn : 7000 < n) (hN : n < 4000000000000000000) : ∃ (e : ErrV) (bad0 : Int) (u : SL) (bad : Int) (al : SL) (v : Int), al.length ≤ 16 ∧
    deps_Graph_All n (((), x, ()), (((), ()), mapOf l, ())) = some (((((), ()), (e, ()), ()), ()), (((), ()), mapOf l, al, ())) ∧
    ref16_Used n ((x, l, ()), ()) = some (((((), ()), (bad0, ()), ()), ()), (u, ())) ∧
    law24_DepsSays_c40 n ((l, x, (), (), e, (), bad0, (), 0, ()), (((), ()), al, u, mapOf l, ())) = some (.inl ((l, x, (), (), e, bad, (), 0, ()), (((), ()), al, al, mapOf l, ()))) ∧
    law24_DepsSays_c42 n ((l, x, (), (), e, bad, (), 0, ()), (((), ()), al, al, mapOf l, ())) = some (.inl ((x, (), (), e, bad, (), v, ()), (((), ()), al, al, mapOf l, ()))) ∧
    pendulumsee_Is n ((e, bad, ()), ()) = some ((true, ()), ()) ∧
    deps_Graph_Depth n (((), x, ()), (((), ()), mapOf l, ())) = some ((v, ()), (((), ()), mapOf l, ())) := by
  rcases all_both h x with a | ⟨u, a⟩ | ⟨u, al, a, hO, ha, hr, hd⟩
  · obtain ⟨a1, a2⟩ := a n (by omega) hN
    obtain ⟨b1, _⟩ := a (n - 1) (by omega) (by omega)
    refine ⟨.sent 116, 116, [], 116, [], 0, by simp, a1, a2, ?_, ?_, is_none (by omega), depth_none x rfl (by omega) b1⟩
    · rw [law24_DepsSays_c40, if_neg (by decide)]
    · rw [law24_DepsSays_c42, if_neg (by decide)]
  · obtain ⟨a1, a2, a3⟩ := a n (by omega) hN
    obtain ⟨b1, _, _⟩ := a (n - 1) (by omega) (by omega)
    refine ⟨.sent 113, 0, u, 113, [], 0, by simp, a1, a2, ?_, ?_, is_loop (by omega), depth_none x rfl (by omega) b1⟩
    · rw [law24_DepsSays_c40, if_pos (by decide), a3]
      rfl
    · rw [law24_DepsSays_c42, if_neg (by decide)]
  · obtain ⟨a1, a2, a3⟩ := a n (by omega) hN
    obtain ⟨b1, _, _⟩ := a (n - 1) (by omega) (by omega)
    obtain ⟨v, v1, v2⟩ := depth_both h x hO ha hd hr (n := n) (by omega) hN b1
    refine ⟨.nil, 0, u, 0, al, v, ha, a1, a2, ?_, ?_, is_fine (by omega), v1⟩
    · rw [law24_DepsSays_c40, if_pos (by decide), a3]
      rfl
    · rw [law24_DepsSays_c42, if_pos (by decide), v2]
theorem says {n : Nat} (hn : 140737488400100 < n) (hN : n < 4000000000000000000) (l : List NodeT) (hB : ∀ x ∈ l, NodeB x) (x : ByteArray) : law24_DepsSays (n + 1) ((l, x, ()), ()) = some ((true, ()), ()) := by
  rw [law24_DepsSays, first_at (by omega)]
  simp only []
  rw [if_neg (by decide)]
  rcases nodes_at (n := n) (by omega) (by omega) l 20 (by omega) hB with ⟨h1, h2, h3⟩ | h1
  · rw [show world_Nodes n ((l, 20, ()), ()) = _ from h1]
    simp only []
    rw [if_neg (by decide)]
    by_cases hr : (x.size : Int) > 60
    · rw [if_pos (decide_eq_true hr)]
    rw [if_neg (by simpa using hr), if_neg (by decide)]
    by_cases h16 : l.length ≤ 16
    · rcases new2_at (n := n) (by omega) l h16 h3 with ⟨a1, a2⟩ | ⟨i, i1, a1, a2, q, q1, q2⟩
      · have h : Ok l := ⟨h16, h3, a2⟩
        rw [a1]
        simp only []
        rw [none_at (by omega)]
        simp only []
        rw [l9_none (n := n) x .nil (mapOf l) (by omega) (by omega) a2]
        simp only []
        rw [if_neg (by simp; omega), same_none (by omega)]
        simp only []
        rw [if_neg (by decide), if_neg (by decide)]
        obtain ⟨us, u1, u2⟩ := l24_at (n := n) h x (mapOf l) (by omega) hN l.length 0 n [] (by omega) (by omega) ⟨fun j hj => by omega, fun _ => rfl⟩
        rw [show law24_DepsSays_l24 n n ((l, x, (), (), [], (), 0, ()), (((), ()), [], [], mapOf l, ())) = _ from u2]
        simp only []
        obtain ⟨R1, r1, r2, r3, r4⟩ := rising_ref (n := n) (l.map (·.1)) (by rw [List.length_map]; omega) (by rw [List.length_map]; omega)
        have e1 : sortS (l.map (·.1)) = R1 := rising_eq (sortS_rising a2) r1 fun s => by rw [(sortS_perm _).mem_iff, r3 s]
        have hl1 : (sortS (l.map (·.1))).length ≤ 16 := by rw [(sortS_perm _).length_eq, List.length_map]; exact h16
        rw [names_at (by omega) h.g h.al]
        simp only []
        rw [r4]
        simp only []
        rw [← e1, SameTexts_at _ _ (by omega) (by omega), decide_eq_true rfl]
        simp only []
        rw [if_neg (by decide), uses_at (by omega) h.g x h.al]
        simp only []
        have hgl := h.g.get x
        rw [uses_eq h u1] at hgl ⊢
        rw [SameTexts_at _ _ (by omega) (by omega), decide_eq_true rfl]
        simp only []
        rw [if_neg (by decide), used_at (by omega) hN h.g x h.al]
        simp only []
        have hul : (usedL x l).length ≤ 16 := by
          unfold usedL
          rw [List.length_map]
          exact Nat.le_trans (List.length_filter_le _ _) h16
        obtain ⟨R2, s1, s2, s3, s4⟩ := rising_ref (n := n) (usedL x l) (by omega) (by omega)
        have e2 : (sortS (l.map (·.1))).filter (hasU (gOf l) x) = R2 := rising_eq (List.Pairwise.sublist (List.filter_sublist ..) (sortS_rising a2)) s1 fun s => by rw [used_mem h x s, s3 s]
        rw [s4]
        simp only []
        rw [e2, SameTexts_at _ _ (by omega) (by omega), decide_eq_true rfl]
        simp only []
        rw [if_neg (by decide)]
        obtain ⟨e, bad0, u, bad, al, v, t0, t1, t2, t3, t4, t5, t6⟩ := tail_at (n := n) h x (by omega) hN
        rw [t1]
        simp only []
        rw [t2]
        simp only []
        rw [t3]
        simp only []
        rw [t4]
        simp only []
        rw [SameTexts_at _ _ (by omega) (by omega), decide_eq_true rfl]
        simp only []
        rw [if_pos trivial, t5]
        simp only []
        rw [if_pos trivial, t6]
        simp
      · rw [a1]
        simp only []
        rw [none_at (by omega)]
        simp only []
        rw [l9b_at (n := n) x (.at_ (i : Int) (.sent 110)) (by omega) (by omega) i1 a2 ⟨q, Nat.zero_le _, q1, q2⟩]
        simp only []
        rw [if_neg (by simp; omega), same_at (by omega) (i : Int)]
        simp only []
        rw [if_neg (by decide), if_pos (by decide)]
    · have a1 : deps_New_2 n ((l, ()), ()) = some (.inr ((((((), ()), (ErrV.sent 103, ()), ()), ()), ()))) := by
        obtain ⟨n, rfl⟩ : ∃ q, n = q + 1 := ⟨n - 1, by omega⟩
        rw [deps_New_2, if_pos (decide_eq_true (show (l.length : Int) > 16 by omega))]
      rw [a1]
      simp only []
      rw [none_at (by omega)]
      simp only []
      obtain ⟨w, hw⟩ := l9b_any (n := n) (l := l) x (.sent 103) (by omega) (by omega)
      rw [hw]
      obtain ⟨w1, w2, w3, w4, w5, ⟨⟩⟩ := w
      simp only []
      rw [if_pos (decide_eq_true (show (l.length : Int) > 16 by omega)), bare_at (by omega)]
      simp only []
      rw [same_many (by omega)]
      simp only []
      rw [if_neg (by decide), if_pos (by decide)]
  · rw [show world_Nodes n ((l, 20, ()), ()) = _ from h1]
    rfl
theorem bytes_pos : decide (1 ≤ P.bytesOf 36) && decide (1 ≤ P.bytesOf 9) = true := by kernel_rfl
theorem DepsSays : law24_DepsSays.Pure := by
  intro l x h _
  have hp := bytes_pos
  simp only [Bool.and_eq_true, decide_eq_true_eq] at hp
  have len : ∀ {x b : Nat}, 1 ≤ b → x * b ≤ 140737488351232 → x ≤ 140737488351232 := fun hb hx => Nat.le_trans (Nat.le_mul_of_pos_right _ hb) hx
  refine ⟨140737488400200 + 1, says (by omega) (by omega) l (fun x hx => ?_) x⟩
  obtain ⟨g1, g2, g3, g4, g5⟩ := h.2 x hx
  exact ⟨len hp.1 g2.1, len hp.1 g3.1, len hp.1 g4.1, fun q hq => len hp.2 (g5.2 q hq).2.1.1⟩
end Go.Proofs.YtnajjhjbkanigaaDoor.Pure
