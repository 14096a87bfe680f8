/- WireTwins, in plain words: two readers of the same bytes go their own ways. By this session. -/
import Derived.Test.YtpiafijccnbdbaaDoorWBTWireTwins
import Derived.Test.YtpiafijccnbdbaaDoorKTWireTwinsR
namespace Go.Proofs.YtpiafijccnbdbaaDoor.Pure
open Go.RowKit Go.Proofs.YtpiafijccnbdbaaDoor.Pl Go.Proofs.YtpiafijccnbdbaaDoor.WATWireTwins Go.Proofs.YtpiafijccnbdbaaDoor.KTWireTwins Go.Proofs.YtpiafijccnbdbaaDoorW.PrintWords Go.Proofs.YtpiafijccnbdbaaDoorW.PrintLast Go.Proofs.YtpiafijccnbdbaaDoorW.PrintMore
set_option linter.unusedVariables false
theorem number_b (x m : Int) (hm : 0 < m) : -m < Int.tmod x m ∧ Int.tmod x m < m := by
  refine ⟨?_, Int.tmod_lt_of_pos x hm⟩
  have h := Int.natAbs_tmod x m
  have h2 : (Int.tmod x m).natAbs < m.natAbs := by
    rw [h]
    exact Nat.mod_lt _ (by omega)
  omega
theorem number_ok (x m : Int) (hm : 0 < m) (hm1 : m < 4611686018427387904) : ∃ r, pendulumworld_Number.f x m = some r ∧ 0 ≤ r ∧ r < m := by
  have h := number_b x m hm
  unfold pendulumworld_Number.f
  rw [if_neg (by omega)]
  by_cases h0 : Int.tmod x m < 0
  · rw [if_pos h0, wrap64_id (by omega) (by omega)]
    exact ⟨_, rfl, by omega, by omega⟩
  · rw [if_neg h0]
    exact ⟨_, rfl, by omega, by omega⟩
/-- The bytes of the first numbers, and how many that are. -/
def rowsOf (l : List Int) : List Int := l.flatMap enc
def P (l : List Int) (i : Nat) : Nat := (rowsOf (l.take i)).length
theorem rows_len (l : List Int) : (rowsOf l).length ≤ 10 * l.length := by
  induction l with
  | nil => simp [rowsOf]
  | cons a l ih =>
    have := (enc_len a).2
    simp only [rowsOf, List.flatMap_cons, List.length_append, List.length_cons] at *
    omega
theorem rows_succ (l : List Int) (i : Nat) (h : i < l.length) : rowsOf (l.take (i + 1)) = rowsOf (l.take i) ++ enc (l.getD i 0) := by
  rw [take_getD l i 0 h, rowsOf, List.flatMap_append]
  simp [rowsOf]
theorem P_succ (l : List Int) (i : Nat) (h : i < l.length) : P l (i + 1) = P l i + (enc (l.getD i 0)).length := by
  rw [P, rows_succ l i h, List.length_append, P]
theorem rows_drop (l tail : List Int) (i : Nat) (h : i < l.length) : (rowsOf l ++ tail).drop (P l i) = enc (l.getD i 0) ++ (rowsOf (l.drop (i + 1)) ++ tail) := by
  have e : rowsOf l = rowsOf (l.take i) ++ (enc (l.getD i 0) ++ rowsOf (l.drop (i + 1))) := by
    conv => lhs; rw [← List.take_append_drop i l, getD_drop l i 0 h]
    simp [rowsOf, List.flatMap_append]
  rw [e, List.append_assoc, P, List.drop_left, List.append_assoc]
theorem drop0 (l : List Int) (i : Nat) (h : i < l.length) : (rowsOf l).drop (P l i : Int).toNat = enc (l.getD i 0) ++ rowsOf (l.drop (i + 1)) := by
  have e := rows_drop l [] i h
  rw [List.append_nil, List.append_nil] at e
  rw [Int.toNat_natCast, e]
theorem P_lt (l : List Int) (i : Nat) (h : i < l.length) : P l i < (rowsOf l).length := by
  have e := congrArg List.length (drop0 l i h)
  have hp := (enc_len (l.getD i 0)).1
  rw [List.length_drop, List.length_append, Int.toNat_natCast] at e
  omega
theorem P_all (l : List Int) : P l l.length = (rowsOf l).length := by rw [P, List.take_length]
theorem P_le (l : List Int) (i : Nat) (h : i ≤ l.length) : P l i ≤ (rowsOf l).length := by
  rcases Nat.lt_or_ge i l.length with h1 | h1
  · exact Nat.le_of_lt (P_lt l i h1)
  · obtain rfl : i = l.length := by omega
    rw [P_all]
    exact Nat.le_refl _
theorem num_at (l : List Int) (hw : ∀ y ∈ l, -9223372036854775808 ≤ y ∧ y ≤ 9223372036854775807) (i : Nat) (h : i < l.length) : wire_Num.f (rowsOf l) (P l i : Nat) none (-9223372036854775808) 9223372036854775807 = some (l.getD i 0, ((P l (i + 1) : Nat) : Int), none) := by
  obtain ⟨y0, y1⟩ := hw _ (getD_mem l i 0 h)
  rw [Num_none (l.getD i 0) (enc (l.getD i 0)).length (by rw [drop0 l i h]; exact scan_enc y0 y1 _) y0 y1, P_succ l i h]
  rfl
theorem l0_run (l : List Int) (a : Int) (hw : ∀ y ∈ l, -9223372036854775808 ≤ y ∧ y ≤ 9223372036854775807) (hl : l.length ≤ 20) (d : Nat) : ∀ i : Nat, i + d = l.length →
    Ans (fun k => pendulumlaw1_WireTwins.l0 k l a (rowsOf l) l.length) true → Ans (fun k => pendulumlaw1_WireTwins.l0 k l a (rowsOf (l.take i)) i) true := by
  induction d with
  | zero =>
    intro i hi h
    obtain rfl : i = l.length := by omega
    rwa [List.take_length]
  | succ d ih =>
    intro i hi h
    have hb := rows_len (l.take i)
    have hb2 : (l.take i).length ≤ l.length := by rw [List.length_take]; omega
    obtain ⟨y0, y1⟩ := hw _ (getD_mem l i 0 (by omega))
    refine Ans.succ (fun k => by simp only [pendulumlaw1_WireTwins.l0]; rw [if_pos (by omega), if_pos (by omega)]) ?_
    rw [rd_nat]
    refine Ans.bind (Put_ans y0 y1 _ (by omega)) ?_
    rw [← rows_succ l i (by omega), Go.Proofs.YtpiafijccnbdbaaDoor.Pl.up i (by omega)]
    exact ih (i + 1) (by omega) h
theorem l2_run (l : List Int) (hw : ∀ y ∈ l, -9223372036854775808 ≤ y ∧ y ≤ 9223372036854775807) (hl : l.length ≤ 20) (q : Nat) (hq : q ≤ l.length) (d : Nat) : ∀ i : Nat, i + d = l.length →
    Ans (fun k => pendulumlaw1_WireTwins.l2 k l (rowsOf l) q i (rowsOf l) (P l q : Nat) none (rowsOf l) (P l i : Nat) none) true := by
  have hn := rows_len l
  have hPq := P_le l q hq
  induction d with
  | zero =>
    intro i hi
    obtain rfl : i = l.length := by omega
    refine Ans.succ (fun k => by simp only [pendulumlaw1_WireTwins.l2]; rw [if_neg (by omega)]) ?_
    refine Ans.of_eq fun k => ?_
    simp only [wire_At.f, wire_Left.f, wire_Err.f, noE, Option.bind_some, P_all, Int.sub_self, if_true]
    rw [if_pos (by rw [wrap64_id] <;> omega)]
    congr 1
    rcases Nat.lt_or_ge q l.length with h | h
    · have hp := P_lt l q h
      rw [show ((((rowsOf l).length : Int) - (P l q : Nat)) == 0) = false by simp; omega, show (((q : Nat) : Int) == (l.length : Int)) = false by simp; omega]
      rfl
    · obtain rfl : q = l.length := by omega
      rw [P_all, show ((((rowsOf l).length : Int) - ((rowsOf l).length : Int)) == 0) = true by simp]
      simp
  | succ d ih =>
    intro i hi
    refine Ans.succ (fun k => by simp only [pendulumlaw1_WireTwins.l2]; rw [if_pos (by omega)]) ?_
    refine Ans.bind (Ans.of_eq fun _ => num_at l hw i (by omega)) ?_
    refine Ans.ite_pos (by omega) (Ans.ite_pos (rd_nat l i).symm ?_)
    rw [Go.Proofs.YtpiafijccnbdbaaDoor.Pl.up i (by omega)]
    exact ih (i + 1) (by omega)
theorem l1_run (l : List Int) (hw : ∀ y ∈ l, -9223372036854775808 ≤ y ∧ y ≤ 9223372036854775807) (hl : l.length ≤ 20) (q : Nat) (hq : q ≤ l.length) (d : Nat) : ∀ i : Nat, i + d = q →
    Ans (fun k => pendulumlaw1_WireTwins.l1 k l (rowsOf l) q i (rowsOf l) (P l i : Nat) none (rowsOf l) 0 none) true := by
  induction d with
  | zero =>
    intro i hi
    obtain rfl : i = q := by omega
    refine Ans.succ (fun k => by simp only [pendulumlaw1_WireTwins.l1]; rw [if_neg (by omega)]) ?_
    have h := l2_run l hw hl i hq l.length 0 (by omega)
    rwa [show (P l 0 : Nat) = 0 by simp [P, rowsOf]] at h
  | succ d ih =>
    intro i hi
    refine Ans.succ (fun k => by simp only [pendulumlaw1_WireTwins.l1]; rw [if_pos (by omega)]) ?_
    refine Ans.bind (Ans.of_eq fun _ => num_at l hw i (by omega)) ?_
    refine Ans.ite_pos (by omega) (Ans.ite_pos (by omega) (Ans.ite_pos (rd_nat l i).symm ?_))
    rw [Go.Proofs.YtpiafijccnbdbaaDoor.Pl.up i (by omega)]
    exact ih (i + 1) (by omega)
theorem WireTwins : pendulumlaw1_WireTwins.Pure := by
  intro l a hl0 hlw ha
  refine Ans.exists ?_
  unfold pendulumlaw1_WireTwins.f
  refine Ans.bind first_ans ?_
  refine Ans.ite_pos rfl ?_
  refine Ans.ite (fun _ => Ans.succ (fun k => by simp only [pendulumlaw1_WireTwins.j0]; rw [if_pos trivial]) (Ans.some _)) (fun h1 => ?_)
  have hw : ∀ y ∈ l, -9223372036854775808 ≤ y ∧ y ≤ 9223372036854775807 := fun y hy => wf64 (hlw y hy)
  have hn := rows_len l
  refine Ans.succ (fun k => by simp only [pendulumlaw1_WireTwins.j0]; rw [if_neg (by simp)]) ?_
  refine l0_run l a hw (by omega) l.length 0 (by omega) ?_
  refine Ans.succ (fun k => by simp only [pendulumlaw1_WireTwins.l0]; rw [if_neg (by omega)]) ?_
  have hby : ∀ c ∈ rowsOf l, 0 ≤ c ∧ c < 256 := by
    intro c hc
    simp only [rowsOf, List.mem_flatMap] at hc
    obtain ⟨y, hy, hc⟩ := hc
    exact enc_byte (hw y hy).1 (hw y hy).2 c hc
  refine Ans.bind (Ans.of_eq fun _ => new_ok hby (by omega)) ?_
  refine Ans.bind (Ans.of_eq fun _ => new_ok hby (by omega)) ?_
  rw [Go.Proofs.YtpiafijccnbdbaaDoor.Pl.up _ (by omega)]
  obtain ⟨r, hr, hr0, hr1⟩ := number_ok a ((l.length + 1 : Nat) : Int) (by omega) (by omega)
  refine Ans.bind (Ans.of_eq fun _ => hr) ?_
  obtain ⟨q, rfl⟩ := Int.eq_ofNat_of_zero_le hr0
  have h := l1_run l hw (by omega) q (by omega) q 0 (by omega)
  rwa [show (P l 0 : Nat) = 0 by simp [P, rowsOf]] at h
end Go.Proofs.YtpiafijccnbdbaaDoor.Pure
