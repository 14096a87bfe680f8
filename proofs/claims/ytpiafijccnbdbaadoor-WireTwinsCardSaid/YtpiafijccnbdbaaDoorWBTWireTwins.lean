/- Texts as bytes, in plain words. By this session. -/
import Derived.Test.YtpiafijccnbdbaaDoorWATWireTwins
import Derived.Lib.LazyBuf
namespace Go.Proofs.YtpiafijccnbdbaaDoor.WATWireTwins
open Go.RowKit Go.Proofs.YtpiafijccnbdbaaDoor.Pl Go.Proofs.YtpiafijccnbdbaaDoor.KTWireTwins Go.Proofs.YtpiafijccnbdbaaDoorW.PrintWords Go.Proofs.YtpiafijccnbdbaaDoorW.PrintLast Go.Proofs.YtpiafijccnbdbaaDoorW.PrintMore
set_option linter.unusedVariables false
theorem str_bytes (s : ByteArray) : strOfNums (Go.Proofs.YtpiafijccnbdbaaDoorW.PrintWords.bytesOf s) = s := by
  have h := Go.Lib.Lz.strOfNums_map s.data.toList
  simpa [Go.Proofs.YtpiafijccnbdbaaDoorW.PrintWords.bytesOf] using h
theorem bytes_len (s : ByteArray) : (Go.Proofs.YtpiafijccnbdbaaDoorW.PrintWords.bytesOf s).length = s.size := bytesOf_length s
theorem bytes_byte (s : ByteArray) : ∀ c ∈ Go.Proofs.YtpiafijccnbdbaaDoorW.PrintWords.bytesOf s, 0 ≤ c ∧ c < 256 := by
  intro c hc
  obtain ⟨b, _, rfl⟩ := List.mem_map.1 hc
  have := b.toNat_lt
  omega
theorem wfU8 {x : Int} (h : (Lit.int .u8 x).wf = true) : 0 ≤ x ∧ x < 256 := by
  have : 0 ≤ x ∧ x ≤ 255 := by simpa [Lit.wf, IntKind.min, IntKind.max, IntKind.bits, IntKind.signed] using h
  omega
theorem new_ok {b : List Int} (h : ∀ c ∈ b, 0 ≤ c ∧ c < 256) (hl : b.length < 140737488355328) : wire_NewReader.f b = some (b, 0, none) := by
  rw [wire_NewReader.f, if_pos ⟨h, hl⟩]
theorem empty_toList : (⟨#[]⟩ : ByteArray).toList = [] := by
  rw [ByteArray.toList, ByteArray.toList.loop]
  rfl
end Go.Proofs.YtpiafijccnbdbaaDoor.WATWireTwins
