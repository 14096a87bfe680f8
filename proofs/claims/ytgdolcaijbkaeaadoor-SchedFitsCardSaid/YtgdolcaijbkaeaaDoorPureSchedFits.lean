/- SchedFits, in plain words: whatever equations they are. By this session. -/
import Derived.Test.YtgdolcaijbkaeaaDoorSchedFitsF
namespace Go.Proofs.YtgdolcaijbkaeaaDoor.Pure
open Go Go.Proofs.YtgdolcaijbkaeaaDoor.Cm
open Classical
set_option linter.unusedVariables false
set_option maxRecDepth 100000
theorem bound_ex (f : Nat → Nat) : ∀ N, ∃ B, ∀ i, i < N → f i ≤ B
  | 0 => ⟨0, fun i h => absurd h (Nat.not_lt_zero _)⟩
  | N + 1 => by
    obtain ⟨B, h⟩ := bound_ex f N
    refine ⟨B + f N, fun i hi => ?_⟩
    by_cases e : i = N
    · rw [e]; omega
    · have := h i (by omega); omega
theorem fits_walk {l : List PL} {x : Int} {B : Nat} (hB : ∀ i, i < l.length → (leftOf (E l i)).length ≤ B) (hb : B < 4611686018427387904) (hl : l.length < 4611686018427387904) :
    law18_SchedFits (B + l.length + 3000) ((l, x, ()), ()) = some ((true, ()), ()) := by
  obtain ⟨N, hN⟩ : ∃ N, N = B + l.length + 2999 := ⟨_, rfl⟩
  rw [show B + l.length + 3000 = N + 1 by omega]
  have e1 : law18_first N ((), ()) = some ((true, ()), ()) := by
    obtain ⟨m, rfl⟩ : ∃ m, N = m + 100 := ⟨N - 100, by omega⟩
    exact first_at m
  obtain ⟨b, e2, h2⟩ := plains_at (n := N) hB (by omega) hb hl
  rw [law18_SchedFits, e1]
  dsimp only
  rw [if_neg (by simp), e2]
  dsimp only
  cases b with
  | false => rw [if_pos (by simp)]
  | true =>
    obtain ⟨h30, hs⟩ := h2 rfl
    rw [if_neg (by simp), if_neg (by simp)]
    rcases order_at (n := N) (by omega) h30 hs with ⟨q, hd, e3⟩ | ⟨y, e, e3⟩
    · rw [e3]
      have hp := done_perm hd
      have hlen := hd.len
      have hil : (ints q).length = q.length := by simp
      dsimp only
      rw [if_neg (show ¬ (!(errNil ErrV.nil)) = true by decide), check_at (by omega) h30 hs hp]
      dsimp only
      rw [decide_eq_true (done_ok hd), if_neg (by simp), if_neg (show ¬ (((ints q).length : Int) != (l.length : Int)) = true by rw [hil, hlen]; simp)]
      by_cases h2 : ((ints q).length : Int) < 2
      · rw [if_pos (decide_eq_true h2)]
        by_cases h0 : l.length = 0
        · have e4 := check_at (n := N) (q := []) (l := l) (by omega) h30 hs ⟨fun a b _ h => by simp at h, fun a h => by simp at h, by simp [h0]⟩
          have e4' : sched_Check N (((), l, ()), ([], ())) = _ := e4
          rw [e4', decide_eq_true (fun b hb => by simp at hb)]
          simp [h0]
        · rw [check_no (n := N) (q := []) (by omega) h30 hs (by simp; omega)]
          dsimp only
          have : ((l.length : Int) == 0) = false := by rw [beq_eq_false_iff_ne]; omega
          rw [this]
          rfl
      · rw [if_neg (by simpa using h2)]
        have hw : IntKind.i64.wrap (((ints q).length : Int) - 1) = ((q.length - 1 : Nat) : Int) := by rw [w64_id (by omega) (by omega)]; omega
        obtain ⟨k, hk, e4⟩ := number_at (n := N) x (m := q.length - 1) (by omega) (by omega) (by omega)
        rw [hw, e4]
        dsimp only
        rw [ints_at (ints q) (by omega) (by omega)]
        dsimp only
        rw [w64_up k (by omega), if_pos (show (0 : Int) ≤ ((k + 1 : Nat) : Int) ∧ ((k + 1 : Nat) : Int) < ((ints q).length : Int) by omega), ints_rd q (k + 1) (by omega), if_pos (show (0 : Int) ≤ (k : Int) ∧ (k : Int) < ((ints q).length : Int) by omega), ints_rd q k (by omega), if_pos (show (0 : Int) ≤ (k : Int) ∧ (k : Int) < ((ints q).length : Int) by omega), if_pos (show (0 : Int) ≤ ((k + 1 : Nat) : Int) ∧ ((k + 1 : Nat) : Int) < ((List.set (ints q) (k : Int).toNat ((q.getD (k + 1) 0 : Nat) : Int)).length : Int) by rw [List.length_set]; omega), if_pos (show (0 : Int) ≤ ((k + 1 : Nat) : Int) ∧ ((k + 1 : Nat) : Int) < ((ints q).length : Int) by omega)]
        have hr1 := hp.rng (k + 1) (by omega)
        have hr0 := hp.rng k (by omega)
        rw [if_pos (show (0 : Int) ≤ ((q.getD (k + 1) 0 : Nat) : Int) ∧ ((q.getD (k + 1) 0 : Nat) : Int) < (l.length : Int) by omega)]
        have en : sched_Needs N ((tp (rdT ty0 l ((q.getD (k + 1) 0 : Nat) : Int)), ()), ()) = _ := need_at (hs _ hr1) (n := N) (by omega)
        rw [en]
        dsimp only
        have es : List.set (List.set (ints q) (k : Int).toNat ((q.getD (k + 1) 0 : Nat) : Int)) (((k + 1 : Nat) : Int)).toNat ((q.getD k 0 : Nat) : Int) = ints (sw q k) := sw_ints q k
        rw [es]
        have hsl := sw_len q k
        have hh20 := (hs _ hr0).1
        obtain ⟨b, hb1, e5⟩ := hangs_loop (n := N) (l := l) (q := q) (p := ints (sw q k)) (k0 := k) (nd := need (E l (q.getD (k + 1) 0))) (by omega) (need_len _) (by omega) hr0 (hs _ hr0) (leftOf (E l (q.getD k 0))).length N 0 false (by omega) (by omega) (by simp)
        have e5' : law18_SchedFits_l19 N N ((l, (), (k : Int), (), (), false, 0, ()), (ints q, ints (sw q k), need (E l (q.getD (k + 1) 0)), ())) = _ := e5
        rw [e5']
        dsimp only
        rw [check_at (by omega) h30 hs (sw_perm hp (show k + 1 < q.length by omega))]
        dsimp only
        have hbb : decide (∀ a, a < (sw q k).length → OkAt l (sw q k) a) = !b := by
          by_cases hh : Hangs l q k
          · rw [hb1.2 hh, decide_eq_false (fun h => (sw_ok hd (by omega)).1 h hh)]
            rfl
          · have : b = false := by
              cases e : b with
              | false => rfl
              | true => exact absurd (hb1.1 e) hh
            rw [this, decide_eq_true ((sw_ok hd (by omega)).2 hh)]
            rfl
        have hsil : (ints (sw q k)).length = q.length := by simp [hsl]
        rw [hbb, if_pos (by simp), if_pos (by simp; omega), check2_no (by omega) h30 hs (by simp; omega)]
        dsimp only
        rw [if_pos (by simp), if_pos (by omega), check2_no (by omega) h30 hs (by
          have := cutL_len (ints (sw q k)) 1 (ints (sw q k)).length (by omega) (Nat.le_refl _)
          have h1 : (cutL (ints (sw q k)) 1 ((ints (sw q k)).length : Int)).length = (ints (sw q k)).length - 1 := this
          rw [h1]; omega)]
        rfl
    · rw [e3]
      dsimp only
      rw [if_pos (show (!(errNil (ErrV.at_ y e))) = true by rfl)]
      rfl
theorem b38 : P.bytesOf 38 = 152 := by kernel_rfl
theorem b9 : P.bytesOf 9 = 16 := by kernel_rfl
theorem SchedFits : law18_SchedFits.Pure := by
  intro l x h1 _
  obtain ⟨h1, h2⟩ := h1
  have h1 : l.length * P.bytesOf 38 ≤ 140737488351232 := h1
  rw [b38] at h1
  obtain ⟨B, hB⟩ := bound_ex (fun i => (leftOf (E l i)).length) l.length
  have hB' : ∀ i, i < l.length → (leftOf (E l i)).length ≤ 140737488351232 := fun i hi => by
    have h3 := (h2 (E l i) (getD_mem l i hi _)).1
    have h4 : (leftOf (E l i)).length * P.bytesOf 9 ≤ 140737488351232 := h3.1
    rw [b9] at h4
    omega
  exact ⟨_, fits_walk hB' (by omega) (by omega)⟩
end Go.Proofs.YtgdolcaijbkaeaaDoor.Pure
