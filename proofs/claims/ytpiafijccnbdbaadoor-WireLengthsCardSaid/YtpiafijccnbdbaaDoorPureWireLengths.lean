/- WireLengths, in plain words. By this session. -/
import Derived.Test.YtpiafijccnbdbaaDoorWBTWireLengths
import Derived.Test.YtpiafijccnbdbaaDoorKTWireLengthsR
namespace Go.Proofs.YtpiafijccnbdbaaDoor.Pure
open Go.RowKit Go.Proofs.YtpiafijccnbdbaaDoor.Pl Go.Proofs.YtpiafijccnbdbaaDoor.WATWireLengths Go.Proofs.YtpiafijccnbdbaaDoor.KTWireLengths Go.Proofs.YtpiafijccnbdbaaDoorW.PrintWords Go.Proofs.YtpiafijccnbdbaaDoorW.PrintLast Go.Proofs.YtpiafijccnbdbaaDoorW.PrintMore
set_option linter.unusedVariables false
theorem number_b (x m : Int) (hm : 0 < m) : -m < Int.tmod x m ∧ Int.tmod x m < m := by
  refine ⟨?_, Int.tmod_lt_of_pos x hm⟩
  have h := Int.natAbs_tmod x m
  have h2 : (Int.tmod x m).natAbs < m.natAbs := by
    rw [h]
    exact Nat.mod_lt _ (by omega)
  omega
theorem number_ok (x m : Int) (hm : 0 < m) (hm1 : m < 4611686018427387904) : ∃ r, pendulumworld_Number.f x m = some r ∧ 0 ≤ r ∧ r < m := by
  have h := number_b x m hm
  unfold pendulumworld_Number.f
  rw [if_neg (by omega)]
  by_cases h0 : Int.tmod x m < 0
  · rw [if_pos h0, wrap64_id (by omega) (by omega)]
    exact ⟨_, rfl, by omega, by omega⟩
  · rw [if_neg h0]
    exact ⟨_, rfl, by omega, by omega⟩
theorem WireLengths : pendulumlaw1_WireLengths.Pure := by
  intro a b ha hb
  obtain ⟨a0, a1⟩ := wf64 ha
  obtain ⟨b0, b1⟩ := wf64 hb
  refine Ans.exists ?_
  unfold pendulumlaw1_WireLengths.f
  refine Ans.bind first_ans ?_
  refine Ans.ite_pos rfl ?_
  obtain ⟨n, hn, n0, n1⟩ := number_ok a 300 (by omega) (by omega)
  obtain ⟨m, hm, m0, m1⟩ := number_ok b 300 (by omega) (by omega)
  refine Ans.bind (Ans.of_eq fun _ => hn) ?_
  refine Ans.bind (Ans.of_eq fun _ => hm) ?_
  refine Ans.ite_pos n0 ?_
  refine Ans.ite_pos (by omega) ?_
  obtain ⟨s, hs⟩ : ∃ s, strOfNums (List.replicate n.toNat 0) = s := ⟨_, rfl⟩
  have hsz : (s.size : Int) = n := by rw [← hs, strOfNums_size, List.length_replicate]; omega
  rw [hs]
  refine Ans.bind (PutText_ans [0] s (by simp; omega)) ?_
  have hl := enc_len (s.size : Int)
  have hnew : wire_NewReader.f ([0] ++ enc s.size ++ Go.Proofs.YtpiafijccnbdbaaDoorW.PrintWords.bytesOf s) = some ([0] ++ enc s.size ++ Go.Proofs.YtpiafijccnbdbaaDoorW.PrintWords.bytesOf s, 0, none) := new_ok (by
    intro c hc
    simp only [List.append_assoc, List.mem_append, List.mem_singleton] at hc
    rcases hc with hc | hc | hc
    · omega
    · exact enc_byte (by omega) (by omega) c hc
    · exact bytes_byte s c hc) (by simp only [List.length_append, bytes_len, List.length_singleton]; omega)
  refine Ans.bind (Ans.of_eq fun _ => hnew) ?_
  have hb1' : wire_Num.f ([0] ++ enc s.size ++ Go.Proofs.YtpiafijccnbdbaaDoorW.PrintWords.bytesOf s) 0 none 0 1 = some (0, 0 + 1, none) := Num_none 0 1 (by
    show scan (0 :: (enc s.size ++ Go.Proofs.YtpiafijccnbdbaaDoorW.PrintWords.bytesOf s)) 0 0 = _
    rw [scan, if_neg (by omega), if_neg (by omega), if_neg (by omega)]
    rfl) (by omega) (by omega)
  refine Ans.of_eq fun k => ?_
  rw [wire_Bool.f, hb1']
  simp only [Option.map_some, Option.bind_some]
  rw [if_neg (by decide)]
  have hd : ([0] ++ enc s.size ++ Go.Proofs.YtpiafijccnbdbaaDoorW.PrintWords.bytesOf s).drop ((0 : Int) + 1).toNat = enc s.size ++ (Go.Proofs.YtpiafijccnbdbaaDoorW.PrintWords.bytesOf s ++ []) := by simp
  by_cases hnm : n ≤ m
  · rw [Text_ok s [] (by omega) (by simp only [List.length_append, List.length_singleton]; omega) hd (by omega) (by omega), Option.bind_some, if_pos hnm, if_pos hsz]
    simp only [wire_Err.f, wire_Left.f, noE, Option.bind_some, if_true, List.length_append, List.length_singleton, bytes_len]
    congr 1
    first | (simp; done) | (simp; omega)
  · rw [Text_bad (c := 104) (Num_range s.size (enc s.size).length (by rw [hd]; exact scan_enc (by omega) (by omega) _) (by omega)), Option.bind_some, if_neg hnm, if_pos empty_toList]
    rfl
end Go.Proofs.YtpiafijccnbdbaaDoor.Pure
