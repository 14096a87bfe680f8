/- MarkSays: whatever the mark and the two texts, the statement answers true. No condition. -/
import Derived.Test.YtbgapakobfpaeaaMarkA
namespace Go.Proofs.Ytbgapakobfpaeaa.Pure
open Go.RowKit Go.Proofs.Ytbgapakobfpaeaa.KMark Go.Proofs.YtbgapakobfpaeaaW.PrintWords Go.Proofs.YtbgapakobfpaeaaW.PrintLast Go.Proofs.Ytbgapakobfpaeaa.MarkA

theorem MarkSays : pendulumlaw2_MarkSays.Pure := by
  intro m s t hm hs ht
  refine ⟨1000, ?_⟩
  unfold pendulumlaw2_MarkSays.f
  rw [first_f, Option.bind_some, if_pos rfl]
  by_cases h1 : (s.size : Int) > 500
  · rw [if_pos h1]
    simp only [pendulumlaw2_MarkSays.j0, if_true]
  · rw [if_neg h1]
    by_cases h2 : (t.size : Int) > 40
    · rw [if_pos h2]
      simp only [pendulumlaw2_MarkSays.j0, if_true]
    · rw [if_neg h2]
      have hm' : 0 ≤ m ∧ m ≤ 18446744073709551615 := by simpa [Lit.wf, IntKind.min, IntKind.max, IntKind.bits, IntKind.signed] using hm
      obtain ⟨n, rfl⟩ := Int.eq_ofNat_of_zero_le hm'.1
      have hn : n < 2 ^ 64 := by omega
      have hb : (BitVec.ofNat 64 n).toNat = n := by rw [BitVec.toNat_ofNat]; exact Nat.mod_eq_of_lt hn
      simp only [pendulumlaw2_MarkSays.j0]
      rw [if_neg (by simp), refRead_f 999 t (by omega)]
      obtain ⟨⟨x, b⟩, hr⟩ : ∃ r, mark_Read.f t = some r := ⟨_, rfl⟩
      have hA := add_f 999 (BitVec.ofNat 64 n) s (by omega) (by omega)
      have hB := refMark_f 999 (BitVec.ofNat 64 n) s (by omega) (by omega)
      have hC := refMark_f 999 begin_ s (by omega) (by omega)
      rw [hb] at hA hB
      rw [show ((begin_.toNat : Nat) : Int) = 14695981039346656037 from rfl] at hC
      rw [hr, Option.bind_some, Option.bind_some, of_f 999 s (by omega) (by omega), Option.bind_some, hC, Option.bind_some, if_pos rfl]
      rw [hA, Option.bind_some, hB, Option.bind_some, if_pos rfl, text_f 999 n hn (by omega), Option.bind_some, refText_f 999 n hn (by omega), Option.bind_some, if_pos rfl, if_pos rfl]
      simp
end Go.Proofs.Ytbgapakobfpaeaa.Pure
