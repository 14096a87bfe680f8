/- WirePuts, in plain words: the document's bytes are the program's, and are read back. By this session. -/
import Derived.Test.YtpiafijccnbdbaaDoorWBTWirePuts
import Derived.Test.YtpiafijccnbdbaaDoorKTWirePutsR
namespace Go.Proofs.YtpiafijccnbdbaaDoor.Pure
open Go.RowKit Go.Proofs.YtpiafijccnbdbaaDoor.Pl Go.Proofs.YtpiafijccnbdbaaDoor.WATWirePuts Go.Proofs.YtpiafijccnbdbaaDoor.KTWirePuts Go.Proofs.YtpiafijccnbdbaaDoorW.PrintWords Go.Proofs.YtpiafijccnbdbaaDoorW.PrintLast Go.Proofs.YtpiafijccnbdbaaDoorW.PrintMore
set_option linter.unusedVariables false
theorem ref_l0 (k : Nat) : ∀ (z : Int) (x : List Int), 0 ≤ z → z < 128 ^ (k + 1) → z < 18446744073709551616 → x.length + k + 1 < 140737488355328 → pendulumref1_Put.l0 (k + 1) x z = some (x ++ encF (k + 1) z) := by
  induction k with
  | zero =>
    intro z x hz hb hb2 hl
    simp only [Int.pow_succ, Int.pow_zero] at hb
    rw [pendulumref1_Put.l0, if_neg (by omega), if_pos (by omega), encF, if_neg (by omega), show z % 256 = z by omega]
  | succ k ih =>
    intro z x hz hb hb2 hl
    rw [pendulumref1_Put.l0, encF]
    by_cases h : 128 ≤ z
    · have e : (Go.bits .or .u64 (Go.bits .and .u64 z 127) 128) % 256 = z % 128 + 128 := by
        have e1 : Go.bits .and .u64 z 127 = z % 128 := by
          rw [u64_and z 127 hz hb2 (by omega) (by omega), show (127 : Int).toNat = 2 ^ 7 - 1 by decide, Nat.and_two_pow_sub_one_eq_mod]
          omega
        rw [e1]
        obtain ⟨a, ha⟩ := Int.eq_ofNat_of_zero_le (show 0 ≤ z % 128 by omega)
        rw [ha, u64_or a 128 (by omega) (by omega) (by omega) (by omega), Nat.or_comm, show (128 : Int).toNat = 2 ^ 7 * 1 by decide]
        have hlt : (a : Int).toNat < 2 ^ 7 := by
          have : (a : Int) < 128 := by omega
          omega
        rw [← Nat.two_pow_add_eq_or_of_lt hlt 1]
        omega
      rw [if_pos h, if_pos (by omega), if_pos h, ih (z / 128) _ (by omega) ?_ (by omega) (by simp; omega), e, List.append_assoc]
      · rfl
      · rw [pow_step] at hb
        exact Int.ediv_lt_of_lt_mul (by decide) (by rw [Int.mul_comm]; exact hb)
    · rw [if_neg h, if_pos (by omega), if_neg h, show z % 256 = z by omega]
theorem ref_ans {n : Int} (h0 : -9223372036854775808 ≤ n) (h1 : n ≤ 9223372036854775807) (x : List Int) (hl : x.length < 140737488355000) : Ans (fun k => pendulumref1_Put.f k x n) (x ++ enc n) := by
  have hz := zig_range h0 h1
  have hj : Ans (fun k => pendulumref1_Put.j0 k x (zig n)) (x ++ enc n) := by
    refine Ans.succ (fun k => by simp only [pendulumref1_Put.j0]; rfl) ?_
    refine Ans.of_mono (m := 10) (fun k => (pendulumref1_Put.mono_l k).2 x (zig n)) ?_
    exact ref_l0 9 (zig n) x hz.1 (Int.lt_trans hz.2 (by decide)) hz.2 (by omega)
  unfold pendulumref1_Put.f
  refine Ans.bind (bytes_ans x hl) ?_
  refine Ans.ite (fun h => ?_) (fun h => ?_)
  · have e : Go.bits .xor .u64 18446744073709551615 (IntKind.u64.wrap ((IntKind.u64.wrap n) * 2)) = zig n := by
      unfold zig
      rw [if_neg (by omega), show IntKind.u64.wrap (IntKind.u64.wrap n * 2) = 2 * n + 18446744073709551616 by rw [IntKind.wrap_u64, IntKind.wrap_u64]; omega, u64_xor _ _ (by omega) (by omega) (by omega) (by omega), show (18446744073709551615 : Int).toNat = 2 ^ 64 - 1 by decide, Go.Lib.xor_ones64 _ (by omega)]
      omega
    rw [e]
    exact hj
  · have e : IntKind.u64.wrap ((IntKind.u64.wrap n) * 2) = zig n := by
      unfold zig
      rw [if_pos (by omega), IntKind.wrap_u64, IntKind.wrap_u64]
      omega
    rw [e]
    exact hj
theorem refText_ans (x : List Int) (s : ByteArray) (hx : x.length + s.size < 140737488355000) : Ans (fun k => pendulumref1_PutText.f k x s) (x ++ enc s.size ++ Go.Proofs.YtpiafijccnbdbaaDoorW.PrintWords.bytesOf s) := by
  have hl := (enc_len s.size).2
  unfold pendulumref1_PutText.f
  refine Ans.bind (ref_ans (by omega) (by omega) x (by omega)) ?_
  exact Ans.ite_pos (by simp only [List.length_append]; omega) (Ans.some _)
theorem WirePuts : pendulumlaw1_WirePuts.Pure := by
  intro l n s hll hlb hn hs
  obtain ⟨n0, n1⟩ := wf64 hn
  refine Ans.exists ?_
  unfold pendulumlaw1_WirePuts.f
  refine Ans.bind first_ans ?_
  refine Ans.ite_pos rfl ?_
  have htrue : Ans (fun k => pendulumlaw1_WirePuts.j0 k l n s true true) true := Ans.succ (fun k => by simp only [pendulumlaw1_WirePuts.j0]; rw [if_pos trivial]) (Ans.some _)
  refine Ans.ite (fun _ => htrue) (fun h1 => Ans.ite (fun _ => htrue) (fun h2 => ?_))
  have hen := enc_len n
  have hes := enc_len (s.size : Int)
  have hsame : ∀ x : List Int, x.length < 4611686018427387904 → Ans (fun k => pendulumref_SameBytes.f k x x) true := fun x hx => by simpa using same_ans x x hx
  refine Ans.succ (fun k => by simp only [pendulumlaw1_WirePuts.j0]; rw [if_neg (by simp)]) ?_
  refine Ans.bind (bytes_ans l (by omega)) ?_
  refine Ans.bind (Put_ans n0 n1 l (by omega)) ?_
  refine Ans.bind (PutText_ans l s (by omega)) ?_
  refine Ans.bind (Put_ans n0 n1 [] (by simp)) ?_
  rw [List.nil_append]
  refine Ans.bind (PutText_ans (enc n) s (by omega)) ?_
  obtain ⟨b, hb⟩ : ∃ b, enc n ++ enc s.size ++ Go.Proofs.YtpiafijccnbdbaaDoorW.PrintWords.bytesOf s = b := ⟨_, rfl⟩
  have hbl : b.length = (enc n).length + (enc s.size).length + s.size := by rw [← hb]; simp only [List.length_append, bytes_len]
  have hnew : wire_NewReader.f b = some (b, 0, none) := new_ok (by
    intro c hc
    rw [← hb] at hc
    simp only [List.append_assoc, List.mem_append] at hc
    rcases hc with hc | hc | hc
    · exact enc_byte n0 n1 c hc
    · exact enc_byte (by omega) (by omega) c hc
    · exact bytes_byte s c hc) (by omega)
  rw [hb]
  refine Ans.bind (Ans.of_eq fun _ => hnew) ?_
  refine Ans.bind (ref_ans n0 n1 l (by omega)) ?_
  refine Ans.bind (hsame _ (by simp only [List.length_append]; omega)) ?_
  refine Ans.ite_pos rfl ?_
  refine Ans.bind (refText_ans l s (by omega)) ?_
  refine Ans.bind (hsame _ (by simp only [List.length_append, bytes_len]; omega)) ?_
  refine Ans.ite_pos rfl ?_
  refine Ans.bind (hsame l (by omega)) ?_
  refine Ans.succ (fun k => by simp only [pendulumlaw1_WirePuts.j1]; rw [if_neg (by simp)]) ?_
  refine Ans.of_eq fun k => ?_
  rw [Num_none (b := b) (at_ := 0) n (enc n).length (by rw [← hb]; simpa using scan_enc n0 n1 (enc s.size ++ Go.Proofs.YtpiafijccnbdbaaDoorW.PrintWords.bytesOf s)) n0 n1, Option.bind_some]
  simp only []
  rw [Text_ok (b := b) s [] (by omega) (by omega) (by rw [← hb]; simp) (by omega) (by omega), Option.bind_some]
  simp only [wire_Err.f, wire_Left.f, noE, Option.bind_some, if_true, Int.zero_add]
  rw [if_pos (by omega)]
end Go.Proofs.YtpiafijccnbdbaaDoor.Pure
