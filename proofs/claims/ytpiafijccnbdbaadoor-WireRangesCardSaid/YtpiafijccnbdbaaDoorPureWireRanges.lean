/- WireRanges, in plain words. By this session. -/
import Derived.Test.YtpiafijccnbdbaaDoorWBTWireRanges
import Derived.Test.YtpiafijccnbdbaaDoorKTWireRangesR
namespace Go.Proofs.YtpiafijccnbdbaaDoor.Pure
open Go.RowKit Go.Proofs.YtpiafijccnbdbaaDoor.Pl Go.Proofs.YtpiafijccnbdbaaDoor.WATWireRanges Go.Proofs.YtpiafijccnbdbaaDoor.KTWireRanges Go.Proofs.YtpiafijccnbdbaaDoorW.PrintWords Go.Proofs.YtpiafijccnbdbaaDoorW.PrintLast Go.Proofs.YtpiafijccnbdbaaDoorW.PrintMore
set_option linter.unusedVariables false
theorem j1_bad (b more x10 : List Int) (n : Int) : Ans (fun k => pendulumlaw1_WireRanges.j1 k n more x10 0 false b 0 (some (0, 104))) true := by
  refine Ans.succ (fun k => by simp only [pendulumlaw1_WireRanges.j1]; rw [if_neg (by simp)]) ?_
  refine Ans.of_eq fun k => ?_
  rw [Num_some, Option.bind_some, if_pos trivial, if_pos rfl, wire_Bool.f, Num_some, Option.map_some, Option.bind_some, if_neg (by decide)]
  simp only []
  rw [Text_some, Option.bind_some, if_pos empty_toList]
  rfl
theorem WireRanges : pendulumlaw1_WireRanges.Pure := by
  intro n lo hi more hn hlo hhi hml hmb
  obtain ⟨n0, n1⟩ := wf64 hn
  refine Ans.exists ?_
  unfold pendulumlaw1_WireRanges.f
  refine Ans.bind first_ans ?_
  refine Ans.ite_pos rfl ?_
  refine Ans.ite (fun h => ?_) (fun h => ?_)
  · exact Ans.succ (fun k => by simp only [pendulumlaw1_WireRanges.j0]; rw [if_pos trivial]) (Ans.some _)
  refine Ans.succ (fun k => by simp only [pendulumlaw1_WireRanges.j0]; rw [if_neg (by simp)]) ?_
  refine Ans.bind (Put_ans n0 n1 [] (by simp)) ?_
  rw [List.nil_append]
  have hl := enc_len n
  refine Ans.bind (bytes_ans _ (by omega)) ?_
  refine Ans.ite_pos (by omega) ?_
  have hnew : wire_NewReader.f (enc n ++ more) = some (enc n ++ more, 0, none) := new_ok (by
    intro c hc
    rcases List.mem_append.1 hc with hc | hc
    · exact enc_byte n0 n1 c hc
    · exact wfU8 (hmb c hc)) (by simp only [List.length_append]; omega)
  refine Ans.bind (Ans.of_eq fun _ => hnew) ?_
  have hsc : scan ((enc n ++ more).drop (0 : Int).toNat) 0 0 = (0, n, ((enc n).length : Int)) := scan_enc n0 n1 more
  by_cases hr : lo ≤ n ∧ n ≤ hi
  · refine Ans.bind (Ans.of_eq fun _ => Num_none n _ hsc hr.1 hr.2) ?_
    refine Ans.ite_pos hr.1 ?_
    rw [show decide (n ≤ hi) = true from decide_eq_true hr.2]
    refine Ans.succ (fun k => by simp only [pendulumlaw1_WireRanges.j1]; rw [if_pos trivial]) ?_
    refine Ans.of_eq fun k => ?_
    simp only [wire_Err.f, wire_At.f, wire_Left.f, noE, Option.bind_some, if_true, Int.zero_add, List.length_append]
    congr 1
    simp
    omega
  · refine Ans.bind (Ans.of_eq fun _ => Num_range n _ hsc (by omega)) ?_
    refine Ans.ite (fun h2 => ?_) (fun _ => j1_bad _ _ _ _)
    rw [show decide (n ≤ hi) = false from decide_eq_false (by omega)]
    exact j1_bad _ _ _ _
end Go.Proofs.YtpiafijccnbdbaaDoor.Pure
