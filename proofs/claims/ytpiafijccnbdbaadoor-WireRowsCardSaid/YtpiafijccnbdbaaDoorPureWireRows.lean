/- WireRows, in plain words: numbers and a text, one behind the other, are read one by one; cut off anywhere it ends there. By this session. -/
import Derived.Test.YtpiafijccnbdbaaDoorWBTWireRows
import Derived.Test.YtpiafijccnbdbaaDoorKTWireRowsR
namespace Go.Proofs.YtpiafijccnbdbaaDoor.Pure
open Go.RowKit Go.Proofs.YtpiafijccnbdbaaDoor.Pl Go.Proofs.YtpiafijccnbdbaaDoor.WATWireRows Go.Proofs.YtpiafijccnbdbaaDoor.KTWireRows Go.Proofs.YtpiafijccnbdbaaDoorW.PrintWords Go.Proofs.YtpiafijccnbdbaaDoorW.PrintLast Go.Proofs.YtpiafijccnbdbaaDoorW.PrintMore
set_option linter.unusedVariables false
theorem number_b (x m : Int) (hm : 0 < m) : -m < Int.tmod x m ∧ Int.tmod x m < m := by
  refine ⟨?_, Int.tmod_lt_of_pos x hm⟩
  have h := Int.natAbs_tmod x m
  have h2 : (Int.tmod x m).natAbs < m.natAbs := by
    rw [h]
    exact Nat.mod_lt _ (by omega)
  omega
theorem number_ok (x m : Int) (hm : 0 < m) (hm1 : m < 4611686018427387904) : ∃ r, pendulumworld_Number.f x m = some r ∧ 0 ≤ r ∧ r < m := by
  have h := number_b x m hm
  unfold pendulumworld_Number.f
  rw [if_neg (by omega)]
  by_cases h0 : Int.tmod x m < 0
  · rw [if_pos h0, wrap64_id (by omega) (by omega)]
    exact ⟨_, rfl, by omega, by omega⟩
  · rw [if_neg h0]
    exact ⟨_, rfl, by omega, by omega⟩
/-- The bytes of the first numbers, and how many that are. -/
def rowsOf (l : List Int) : List Int := l.flatMap enc
def P (l : List Int) (i : Nat) : Nat := (rowsOf (l.take i)).length
theorem rows_len (l : List Int) : (rowsOf l).length ≤ 10 * l.length := by
  induction l with
  | nil => simp [rowsOf]
  | cons a l ih =>
    have := (enc_len a).2
    simp only [rowsOf, List.flatMap_cons, List.length_append, List.length_cons] at *
    omega
theorem rows_succ (l : List Int) (i : Nat) (h : i < l.length) : rowsOf (l.take (i + 1)) = rowsOf (l.take i) ++ enc (l.getD i 0) := by
  rw [take_getD l i 0 h, rowsOf, List.flatMap_append]
  simp [rowsOf]
theorem P_succ (l : List Int) (i : Nat) (h : i < l.length) : P l (i + 1) = P l i + (enc (l.getD i 0)).length := by
  rw [P, rows_succ l i h, List.length_append, P]
theorem rows_drop (l tail : List Int) (i : Nat) (h : i < l.length) : (rowsOf l ++ tail).drop (P l i) = enc (l.getD i 0) ++ (rowsOf (l.drop (i + 1)) ++ tail) := by
  have e : rowsOf l = rowsOf (l.take i) ++ (enc (l.getD i 0) ++ rowsOf (l.drop (i + 1))) := by
    conv => lhs; rw [← List.take_append_drop i l, getD_drop l i 0 h]
    simp [rowsOf, List.flatMap_append]
  rw [e, List.append_assoc, P, List.drop_left, List.append_assoc]
/-- The places where they end. -/
def ends (l : List Int) (i : Nat) : List Int := (List.range i).map fun j => (P l (j + 1) : Int)
theorem ends_succ (l : List Int) (i : Nat) : ends l (i + 1) = ends l i ++ [(P l (i + 1) : Int)] := by
  rw [ends, List.range_succ, List.map_append]
  rfl
theorem ends_len (l : List Int) (i : Nat) : (ends l i).length = i := by simp [ends]
theorem l0_run (l : List Int) (s : ByteArray) (a : Int) (hw : ∀ y ∈ l, -9223372036854775808 ≤ y ∧ y ≤ 9223372036854775807) (hl : l.length ≤ 20) (d : Nat) : ∀ i : Nat, i + d = l.length →
    Ans (fun k => pendulumlaw1_WireRows.l0 k l s a (rowsOf l) (ends l l.length) l.length) true → Ans (fun k => pendulumlaw1_WireRows.l0 k l s a (rowsOf (l.take i)) (ends l i) i) true := by
  induction d with
  | zero =>
    intro i hi h
    obtain rfl : i = l.length := by omega
    rwa [List.take_length]
  | succ d ih =>
    intro i hi h
    have hb := rows_len (l.take i)
    have hb2 : (l.take i).length ≤ l.length := by rw [List.length_take]; omega
    obtain ⟨y0, y1⟩ := hw _ (getD_mem l i 0 (by omega))
    refine Ans.succ (fun k => by simp only [pendulumlaw1_WireRows.l0]; rw [if_pos (by omega), if_pos (by omega)]) ?_
    rw [rd_nat]
    refine Ans.bind (Put_ans y0 y1 _ (by omega)) ?_
    refine Ans.ite_pos (by rw [ends_len]; omega) ?_
    rw [← rows_succ l i (by omega), Go.Proofs.YtpiafijccnbdbaaDoor.Pl.up i (by omega), show ((rowsOf (l.take (i + 1))).length : Int) = (P l (i + 1) : Int) from rfl, ← ends_succ]
    exact ih (i + 1) (by omega) h
theorem Same_at (c p : Int) (h0 : 101 ≤ c) (h1 : c ≤ 121) : ((pendulumref_Placed.f c p).bind fun x => (pendulumsee_Same.f (some (p, c)) x.1 x.2.1 x.2.2.1 x.2.2.2.1 x.2.2.2.2).bind fun t => some t) = some true := by
  rw [pendulumref_Placed.f, if_neg (by omega)]
  simp only [Option.bind_some, pendulumsee_Same.f, h0, h1, and_self, if_true, pendulumref_SameFault.f]
  simp
theorem j3_end (l : List Int) (s : ByteArray) (e b : List Int) (r p i : Int) : Ans (fun k => pendulumlaw1_WireRows.j3 k l s e r p i false b p (some (p, 101))) true := by
  refine Ans.succ (fun k => by simp only [pendulumlaw1_WireRows.j3]; rw [if_neg (by simp)]) ?_
  refine Ans.of_eq fun k => ?_
  rw [wire_At.f, Option.bind_some]
  simp only [if_true, wire_Err.f, Option.bind_some]
  exact Same_at 101 p (by omega) (by omega)
theorem P_all (l : List Int) : P l l.length = (rowsOf l).length := by rw [P, List.take_length]
theorem rd_end (l : List Int) (t : Int) (i : Nat) (h : i < l.length) : rd (ends l l.length ++ [t]) (i : Int) = P l (i + 1) := by
  rw [rd_nat, List.getD_eq_getElem?_getD, List.getElem?_append_left (by rw [ends_len]; exact h)]
  simp [ends, h]
theorem rd_last (l : List Int) (t : Int) : rd (ends l l.length ++ [t]) (l.length : Int) = t := by
  rw [rd_nat, List.getD_eq_getElem?_getD, List.getElem?_append_right (by rw [ends_len]; exact Nat.le_refl _), ends_len]
  simp
theorem l1_run (l : List Int) (s : ByteArray) (r : Nat) (hw : ∀ y ∈ l, -9223372036854775808 ≤ y ∧ y ≤ 9223372036854775807) (hl : l.length ≤ 20) (hs : s.size ≤ 60) (tail : List Int) (ht : tail = enc s.size ++ Go.Proofs.YtpiafijccnbdbaaDoorW.PrintWords.bytesOf s) (hr : r ≤ (rowsOf l ++ tail).length) (d : Nat) : ∀ i : Nat, i + d = l.length → P l i ≤ r →
    Ans (fun k => pendulumlaw1_WireRows.l1 k l s (ends l l.length ++ [((rowsOf l ++ tail).length : Int)]) r (P l i : Nat) i ((rowsOf l ++ tail).take r) (P l i : Nat) none) true := by
  have hE : ((ends l l.length ++ [((rowsOf l ++ tail).length : Int)]).length : Int) = l.length + 1 := by
    rw [List.length_append, ends_len]
    simp
  have hn := rows_len l
  have hes := enc_len (s.size : Int)
  have htl : tail.length = (enc s.size).length + s.size := by rw [ht, List.length_append, bytes_len]
  have hT : (rowsOf l ++ tail).length = (rowsOf l).length + tail.length := List.length_append
  have hbl : ((rowsOf l ++ tail).take r).length = r := by rw [List.length_take]; omega
  induction d with
  | zero =>
    intro i hi hp
    obtain rfl : i = l.length := by omega
    have hP := P_all l
    have hd : ((rowsOf l ++ tail).take r).drop (P l l.length : Int).toNat = tail.take (r - P l l.length) := by
      rw [Int.toNat_natCast, List.drop_take, hP, List.drop_left]
    refine Ans.succ (fun k => by simp only [pendulumlaw1_WireRows.l1]; rw [if_pos (by omega), if_pos (by omega), if_pos (by omega), if_neg (by omega)]) ?_
    by_cases hfit : (rowsOf l ++ tail).length ≤ r
    · have htx := Text_ok (b := (rowsOf l ++ tail).take r) (at_ := (P l l.length : Nat)) (most := 60) s [] (by omega) (by omega) (by rw [hd, List.take_of_length_le (by omega), ht, List.append_nil]) (by omega) (by omega)
      refine Ans.bind (Ans.of_eq fun _ => htx) ?_
      rw [rd_last]
      refine Ans.ite_pos (by omega) ?_
      refine Ans.ite_pos rfl ?_
      refine Ans.succ (fun k => by simp only [pendulumlaw1_WireRows.j3]; rw [if_pos trivial, if_pos (by omega), if_pos (by omega)]) ?_
      rw [Go.Proofs.YtpiafijccnbdbaaDoor.Pl.up _ (by omega)]
      refine Ans.succ (fun k => by simp only [pendulumlaw1_WireRows.l1]; rw [if_neg (by omega)]) ?_
      refine Ans.of_eq fun k => ?_
      simp only [wire_Err.f, wire_Left.f, noE, Option.bind_some, if_true]
      rw [show ((((rowsOf l ++ tail).take r).length : Int) - ((P l l.length : Nat) + ((enc s.size).length : Int) + s.size)) = 0 by omega]
      rfl
    · have hbad : wire_Text.f ((rowsOf l ++ tail).take r) (P l l.length : Nat) none 60 = some ((⟨#[]⟩ : ByteArray), ((P l l.length : Nat) : Int), some (((P l l.length : Nat) : Int), (101 : Int))) := by
        by_cases hq : r - P l l.length < (enc s.size).length
        · exact Text_bad (Num_bad (by rw [hd, ht, List.take_append_of_le_length (by omega)]; exact scan_cut (by omega) (by omega) _ hq) (by decide))
        · refine Text_short (n := s.size) (k := (enc s.size).length) (Num_none _ _ ?_ (by omega) (by omega)) (by omega)
          rw [hd, ht, List.take_append, List.take_of_length_le (by omega)]
          exact scan_enc (by omega) (by omega) _
      refine Ans.bind (Ans.of_eq fun _ => hbad) ?_
      rw [rd_last]
      refine Ans.ite_neg (by omega) ?_
      refine Ans.ite_pos empty_toList ?_
      exact j3_end _ _ _ _ _ _ _
  | succ d ih =>
    intro i hi hp
    obtain ⟨y0, y1⟩ := hw _ (getD_mem l i 0 (by omega))
    have hPs := P_succ l i (by omega)
    have hd : ((rowsOf l ++ tail).take r).drop (P l i : Int).toNat = (enc (l.getD i 0) ++ (rowsOf (l.drop (i + 1)) ++ tail)).take (r - P l i) := by
      rw [Int.toNat_natCast, List.drop_take, rows_drop l tail i (by omega)]
    refine Ans.succ (fun k => by simp only [pendulumlaw1_WireRows.l1]; rw [if_pos (by omega), if_pos (by omega), if_pos (by omega), if_pos (by omega)]) ?_
    by_cases hfit : P l (i + 1) ≤ r
    · have hnum := Num_none (b := (rowsOf l ++ tail).take r) (at_ := (P l i : Nat)) (lo := -9223372036854775808) (hi := 9223372036854775807) (l.getD i 0) (enc (l.getD i 0)).length (by
        rw [hd, List.take_append, List.take_of_length_le (by omega)]
        exact scan_enc y0 y1 _) y0 y1
      refine Ans.bind (Ans.of_eq fun _ => hnum) ?_
      rw [rd_end l _ i (by omega)]
      refine Ans.ite_pos (by omega) ?_
      refine Ans.ite_pos rfl ?_
      refine Ans.succ (fun k => by simp only [pendulumlaw1_WireRows.j3]; rw [if_pos trivial, if_pos (by omega), if_pos (by omega)]) ?_
      rw [rd_end l _ i (by omega), Go.Proofs.YtpiafijccnbdbaaDoor.Pl.up i (by omega), show ((P l i : Nat) : Int) + ((enc (l.getD i 0)).length : Int) = ((P l (i + 1) : Nat) : Int) by omega]
      exact ih (i + 1) (by omega) hfit
    · have hnum := Num_bad (b := (rowsOf l ++ tail).take r) (at_ := (P l i : Nat)) (lo := -9223372036854775808) (hi := 9223372036854775807) (c := 101) (by
        rw [hd, List.take_append_of_le_length (by omega)]
        exact scan_cut y0 y1 _ (by omega)) (by decide)
      refine Ans.bind (Ans.of_eq fun _ => hnum) ?_
      rw [rd_end l _ i (by omega)]
      refine Ans.ite_neg (by omega) ?_
      refine Ans.ite_pos rfl ?_
      exact j3_end _ _ _ _ _ _ _
theorem WireRows : pendulumlaw1_WireRows.Pure := by
  intro l s a hl0 hlw hs0 ha
  refine Ans.exists ?_
  unfold pendulumlaw1_WireRows.f
  refine Ans.bind first_ans ?_
  refine Ans.ite_pos rfl ?_
  have htrue : Ans (fun k => pendulumlaw1_WireRows.j0 k l s a true true) true := Ans.succ (fun k => by simp only [pendulumlaw1_WireRows.j0]; rw [if_pos trivial]) (Ans.some _)
  refine Ans.ite (fun _ => htrue) (fun h1 => Ans.ite (fun _ => htrue) (fun h2 => ?_))
  have hw : ∀ y ∈ l, -9223372036854775808 ≤ y ∧ y ≤ 9223372036854775807 := fun y hy => wf64 (hlw y hy)
  have hn := rows_len l
  have hes := enc_len (s.size : Int)
  refine Ans.succ (fun k => by simp only [pendulumlaw1_WireRows.j0]; rw [if_neg (by simp)]) ?_
  refine l0_run l s a hw (by omega) l.length 0 (by omega) ?_
  refine Ans.succ (fun k => by simp only [pendulumlaw1_WireRows.l0]; rw [if_neg (by omega)]) ?_
  refine Ans.bind (PutText_ans _ s (by omega)) ?_
  refine Ans.ite_pos (by rw [ends_len]; omega) ?_
  obtain ⟨tail, ht⟩ : ∃ t, t = enc s.size ++ Go.Proofs.YtpiafijccnbdbaaDoorW.PrintWords.bytesOf s := ⟨_, rfl⟩
  rw [List.append_assoc, ← ht]
  have htl : tail.length = (enc s.size).length + s.size := by rw [ht, List.length_append, bytes_len]
  have hT : (rowsOf l ++ tail).length = (rowsOf l).length + tail.length := List.length_append
  rw [Go.Proofs.YtpiafijccnbdbaaDoor.Pl.up _ (by omega)]
  obtain ⟨r, hr, hr0, hr1⟩ := number_ok a (((rowsOf l ++ tail).length + 1 : Nat) : Int) (by omega) (by omega)
  refine Ans.bind (Ans.of_eq fun _ => hr) ?_
  refine Ans.ite_pos hr0 (Ans.ite_pos (by omega) ?_)
  obtain ⟨q, rfl⟩ := Int.eq_ofNat_of_zero_le hr0
  rw [Int.toNat_natCast]
  have hby : ∀ c ∈ rowsOf l ++ tail, 0 ≤ c ∧ c < 256 := by
    intro c hc
    rw [ht] at hc
    simp only [List.mem_append, rowsOf, List.mem_flatMap] at hc
    rcases hc with ⟨y, hy, hc⟩ | hc | hc
    · exact enc_byte (hw y hy).1 (hw y hy).2 c hc
    · exact enc_byte (by omega) (by omega) c hc
    · exact bytes_byte s c hc
  have hnew : wire_NewReader.f ((rowsOf l ++ tail).take q) = some ((rowsOf l ++ tail).take q, 0, none) := new_ok (fun c hc => hby c (List.mem_of_mem_take hc)) (by rw [List.length_take]; omega)
  refine Ans.bind (Ans.of_eq fun _ => hnew) ?_
  exact l1_run l s q hw (by omega) (by omega) tail ht (by omega) l.length 0 (by omega) (by simp [P, rowsOf])
end Go.Proofs.YtpiafijccnbdbaaDoor.Pure
