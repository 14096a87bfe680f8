/- WireForms, in plain words: a number's bytes have one form alone. By this session. -/
import Derived.Test.YtpiafijccnbdbaaDoorWATWireForms
import Derived.Test.YtpiafijccnbdbaaDoorKTWireFormsR
namespace Go.Proofs.YtpiafijccnbdbaaDoor.Pure
open Go.RowKit Go.Lib Go.Proofs.YtpiafijccnbdbaaDoor.Pl Go.Proofs.YtpiafijccnbdbaaDoor.WATWireForms Go.Proofs.YtpiafijccnbdbaaDoor.KTWireForms Go.Proofs.YtpiafijccnbdbaaDoorW.PrintWords Go.Proofs.YtpiafijccnbdbaaDoorW.PrintLast Go.Proofs.YtpiafijccnbdbaaDoorW.PrintMore
set_option linter.unusedVariables false
theorem j1_ans {a : Int} (h0 : -9223372036854775808 ≤ a) (h1 : a ≤ 9223372036854775807) : Ans (fun k => pendulumlaw1_WireForms.j1 k true (enc a) false) true := by
  have hz := zig_range h0 h1
  obtain ⟨l, c, he, hc0, hc1⟩ := encF_last 9 (zig a) hz.1 (Int.lt_trans hz.2 (by decide))
  have hel : enc a = l ++ [c] := he
  have hlen := enc_len a
  have hby := enc_byte h0 h1
  rw [hel] at hlen hby
  simp only [List.length_append, List.length_singleton] at hlen
  rw [hel]
  have hw : wrap64 (((l ++ [c]).length : Int) - 1) = l.length := by
    rw [wrap64_id] <;> simp <;> omega
  have hrd : rd (l ++ [c]) (l.length : Int) = c := by
    rw [rd_nat]
    simp
  have hor : Go.bits .or .u8 c 128 = c + 128 := by
    have := or128 c
    rwa [show c % 256 = c by omega, show c % 128 = c by omega] at this
  have hset : (l ++ [c]).set l.length (c + 128) = l ++ [c + 128] := by simp
  have hnew : wire_NewReader.f (l ++ [c + 128] ++ [0]) = some (l ++ [c + 128, 0], 0, none) := by
    rw [wire_NewReader.f, if_pos]
    · simp
    · refine ⟨?_, by simp; omega⟩
      intro x hx
      simp only [List.append_assoc, List.mem_append, List.mem_singleton] at hx
      rcases hx with hx | hx | hx
      · exact hby x (by simp [hx])
      · omega
      · omega
  refine Ans.succ (fun k => by simp only [pendulumlaw1_WireForms.j1]; rw [if_neg (by simp)]) ?_
  refine Ans.bind (bytes_ans _ (by simp; omega)) ?_
  refine Ans.of_eq fun k => ?_
  rw [hw, if_pos (by omega), if_pos (by simp; omega), Option.bind_some, hrd, hor, Int.toNat_natCast, hset, if_pos (by simp; omega), hnew, Option.bind_some]
  simp only [if_true]
  rw [Num_bad (b := l ++ [c + 128, 0]) (at_ := 0) (c := 102) (scan_longF 9 0 (zig a) 0 l c rfl hz.1 (by simpa using hz.2) he) (by decide), Option.bind_some]
  rfl
theorem WireForms : pendulumlaw1_WireForms.Pure := by
  intro a b ha hb
  obtain ⟨ha0, ha1⟩ := wf64 ha
  obtain ⟨hb0, hb1⟩ := wf64 hb
  refine Ans.exists ?_
  unfold pendulumlaw1_WireForms.f
  refine Ans.bind first_ans ?_
  refine Ans.ite_pos rfl ?_
  refine Ans.bind (Put_ans ha0 ha1 [] (by simp)) ?_
  refine Ans.bind (Put_ans hb0 hb1 [] (by simp)) ?_
  rw [List.nil_append, List.nil_append]
  have hla := enc_len a
  have hlb := enc_len b
  refine Ans.ite_neg (by omega) (Ans.ite_neg (by omega) ?_)
  rw [show (((enc b).length : Int) == 0) = false by simp; intro e; simp [e] at hlb]
  refine Ans.succ (fun k => by simp only [pendulumlaw1_WireForms.j0]; rw [if_neg (by simp)]) ?_
  refine Ans.ite (fun e => j1_ans ha0 ha1) (fun e => ?_)
  refine Ans.ite (fun e2 => ?_) (fun _ => j1_ans ha0 ha1)
  refine Ans.ite_pos (by omega) ?_
  refine Ans.bind (same_ans _ _ (by omega)) ?_
  rw [show decide (enc a = (enc b).take ((enc a).length : Int).toNat) = false from decide_eq_false (fun h => e (enc_take ha0 ha1 hb0 hb1 (by simpa using h)))]
  exact j1_ans ha0 ha1
end Go.Proofs.YtpiafijccnbdbaaDoor.Pure
