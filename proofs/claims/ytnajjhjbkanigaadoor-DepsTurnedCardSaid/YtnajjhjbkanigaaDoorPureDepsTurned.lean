/- DepsTurned, in plain words: the order in which nodes come changes nothing. By this session. -/
import Derived.Test.YtnajjhjbkanigaaDoorDepsTurnedE
namespace Go.Proofs.YtnajjhjbkanigaaDoor.Pure
open Go Go.Proofs.YtnajjhjbkanigaaDoor.Cm
open Classical
set_option linter.unusedVariables false
set_option linter.unusedSimpArgs false
set_option maxRecDepth 100000
theorem turned {n : Nat} (hn : 140737488400100 < n) (hN : n < 4000000000000000000) (l : List NodeT) (hB : ∀ x ∈ l, NodeB x) (root : ByteArray) (by_ : Int) : law24_DepsTurned (n + 1) ((l, root, by_, ()), ()) = some ((true, ()), ()) := by
  rw [law24_DepsTurned, first_at (by omega)]
  simp only []
  rw [if_neg (by decide)]
  rcases nodes_at (n := n) (by omega) (by omega) l 14 (by omega) hB with ⟨h1, h2, h3⟩ | h1
  · rw [show world_Nodes n ((l, 14, ()), ()) = _ from h1]
    simp only []
    rw [if_neg (by decide)]
    by_cases hr : (root.size : Int) > 60
    · rw [if_pos (decide_eq_true hr)]
    rw [if_neg (by simpa using hr)]
    by_cases h0 : l.length = 0
    · rw [if_pos (by rw [h0]; rfl)]
    rw [if_neg (show ¬ ((l.length : Int) == 0) = true from fun e => by have := eq_of_beq e; omega), if_neg (by decide)]
    obtain ⟨k, k1, k2⟩ := num_nat by_ (m := (l.length : Int)) (by omega)
    have hNum : world_Number n ((by_, (l.length : Int), ()), ()) = some (((k : Int), ()), ()) := by rw [Number_at (by omega) _ (by omega) (by omega), k2]
    have hb1 : 0 ≤ (k : Int) ∧ (k : Int) ≤ (l.length : Int) := ⟨by omega, by omega⟩
    have hc1 : cutL l (k : Int) (l.length : Int) = l.drop k := by
      unfold cutL
      rw [Int.toNat_natCast, Int.toNat_natCast, List.take_length]
    have hc2 : cutL l 0 (k : Int) = l.take k := by
      unfold cutL
      rw [Int.toNat_natCast, Int.toNat_zero, List.drop_zero]
    have hd : (l.drop k).length ≤ 14 := by rw [List.length_drop]; omega
    have ht : (l.take k).length ≤ 14 := by rw [List.length_take]; omega
    have hperm : (l.drop k ++ l.take k).Perm l := by
      have h := List.perm_append_comm (l₁ := l.drop k) (l₂ := l.take k)
      rwa [List.take_append_drop] at h
    have hlen : (l.drop k ++ l.take k).length ≤ 14 := by rw [hperm.length_eq]; exact h2
    have hL2 : ∀ x ∈ l.drop k ++ l.take k, Light x := fun x hx => h3 x (hperm.mem_iff.1 hx)
    have hnd : ((l.drop k ++ l.take k).map (·.1)).Nodup ↔ (l.map (·.1)).Nodup := (hperm.map _).nodup_iff
    have cond1 : (([] : List ty0.T).length + (l.drop k).length) * 112 ≤ 140737488355328 := by simp only [List.length_nil]; omega
    have cond2 : (([] ++ l.drop k : List ty0.T).length + (l.take k).length) * 112 ≤ 140737488355328 := by rw [List.nil_append]; omega
    rcases new2_at (n := n) (by omega) l h2 h3 with ⟨a1, a2⟩ | ⟨e, e1, a1, a2⟩
    · rcases new_at (n := n) (by omega) (l.drop k ++ l.take k) hlen hL2 with ⟨b1, b2⟩ | ⟨e', e2, b1, b2⟩
      · have G := graph_of h2 h3 a2
        have A1 : Al (fun s => mfind kst s (mapOf l)) (mapOf l) := ⟨fun s => rfl, by rw [mapOf_keys]; exact a2⟩
        have hpm : (mapOf l).Perm (mapOf (l.drop k ++ l.take k)) := (hperm.symm).map _
        have A2 : Al (fun s => mfind kst s (mapOf l)) (mapOf (l.drop k ++ l.take k)) := ⟨fun s => perm_find hpm (by rw [mapOf_keys]; exact a2) s, by rw [mapOf_keys]; exact b2⟩
        obtain ⟨al, ae, c1, c2⟩ := all_at (n := n) (by omega) hN G root
        obtain ⟨v, d1⟩ := depth_at (n := n) (by omega) hN G root
        obtain ⟨us, u1, u2⟩ := used_at (n := n) (by omega) hN G root
        have hsl : (sortS (l.map (·.1))).length ≤ 14 := by rw [(sortS_perm _).length_eq, List.length_map]; exact h2
        rw [a1]
        simp only []
        rw [hNum]
        simp only []
        rw [if_pos hb1, hc1, if_pos cond1, if_pos hb1, hc2, if_pos cond2, show deps_New n (((), ()), (([] ++ l.drop k) ++ l.take k, ())) = _ from b1]
        simp only []
        rw [if_neg (by decide), if_neg (by decide), c2 _ A1]
        simp only []
        rw [c2 _ A2]
        simp only []
        rw [SameTexts_at al al (by omega) (by omega), decide_eq_true rfl]
        simp only []
        rw [if_pos trivial, if_pos (by simp), d1 _ A1]
        simp only []
        rw [d1 _ A2]
        simp only []
        rw [if_pos (by simp), names_at (by omega) G A1]
        simp only []
        rw [names_at (by omega) G A2]
        simp only []
        rw [SameTexts_at _ _ (by omega) (by omega), decide_eq_true rfl]
        simp only []
        rw [if_pos trivial, u2 _ A1]
        simp only []
        rw [u2 _ A2]
        simp only []
        rw [SameTexts_at us us (by omega) (by omega), decide_eq_true rfl]
      · exact absurd (hnd.2 a2) b2
    · rcases new_at (n := n) (by omega) (l.drop k ++ l.take k) hlen hL2 with ⟨b1, b2⟩ | ⟨e', e2, b1, b2⟩
      · exact absurd (hnd.1 b2) a2
      · rw [a1]
        simp only []
        rw [hNum]
        simp only []
        rw [if_pos hb1, hc1, if_pos cond1, if_pos hb1, hc2, if_pos cond2, show deps_New n (((), ()), (([] ++ l.drop k) ++ l.take k, ())) = _ from b1]
        simp only []
        rw [if_pos (by rw [e1]; rfl), if_pos (by rw [e1]; rfl), e2]
        rfl
  · rw [show world_Nodes n ((l, 14, ()), ()) = _ from h1]
    rfl
theorem bytes_pos : decide (1 ≤ P.bytesOf 36) && decide (1 ≤ P.bytesOf 9) = true := by kernel_rfl
theorem DepsTurned : law24_DepsTurned.Pure := by
  intro l root by_ h _ _
  have hp := bytes_pos
  simp only [Bool.and_eq_true, decide_eq_true_eq] at hp
  have len : ∀ {x b : Nat}, 1 ≤ b → x * b ≤ 140737488351232 → x ≤ 140737488351232 := fun hb hx => Nat.le_trans (Nat.le_mul_of_pos_right _ hb) hx
  refine ⟨140737488400200 + 1, turned (by omega) (by omega) l (fun x hx => ?_) root by_⟩
  obtain ⟨g1, g2, g3, g4, g5⟩ := h.2 x hx
  exact ⟨len hp.1 g2.1, len hp.1 g3.1, len hp.1 g4.1, fun q hq => len hp.2 (g5.2 q hq).2.1.1⟩
end Go.Proofs.YtnajjhjbkanigaaDoor.Pure
