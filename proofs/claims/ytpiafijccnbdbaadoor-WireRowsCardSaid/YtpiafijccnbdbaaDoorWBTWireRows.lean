/- Texts as bytes, in plain words. By this session. -/
import Derived.Test.YtpiafijccnbdbaaDoorWATWireRows
import Derived.Lib.LazyBuf
namespace Go.Proofs.YtpiafijccnbdbaaDoor.WATWireRows
open Go.RowKit Go.Proofs.YtpiafijccnbdbaaDoor.Pl Go.Proofs.YtpiafijccnbdbaaDoor.KTWireRows Go.Proofs.YtpiafijccnbdbaaDoorW.PrintWords Go.Proofs.YtpiafijccnbdbaaDoorW.PrintLast Go.Proofs.YtpiafijccnbdbaaDoorW.PrintMore
set_option linter.unusedVariables false
theorem str_bytes (s : ByteArray) : strOfNums (Go.Proofs.YtpiafijccnbdbaaDoorW.PrintWords.bytesOf s) = s := by
  have h := Go.Lib.Lz.strOfNums_map s.data.toList
  simpa [Go.Proofs.YtpiafijccnbdbaaDoorW.PrintWords.bytesOf] using h
theorem bytes_len (s : ByteArray) : (Go.Proofs.YtpiafijccnbdbaaDoorW.PrintWords.bytesOf s).length = s.size := bytesOf_length s
theorem bytes_byte (s : ByteArray) : ∀ c ∈ Go.Proofs.YtpiafijccnbdbaaDoorW.PrintWords.bytesOf s, 0 ≤ c ∧ c < 256 := by
  intro c hc
  obtain ⟨b, _, rfl⟩ := List.mem_map.1 hc
  have := b.toNat_lt
  omega
theorem wfU8 {x : Int} (h : (Lit.int .u8 x).wf = true) : 0 ≤ x ∧ x < 256 := by
  have : 0 ≤ x ∧ x ≤ 255 := by simpa [Lit.wf, IntKind.min, IntKind.max, IntKind.bits, IntKind.signed] using h
  omega
theorem new_ok {b : List Int} (h : ∀ c ∈ b, 0 ≤ c ∧ c < 256) (hl : b.length < 140737488355328) : wire_NewReader.f b = some (b, 0, none) := by
  rw [wire_NewReader.f, if_pos ⟨h, hl⟩]
theorem empty_toList : (⟨#[]⟩ : ByteArray).toList = [] := by
  rw [ByteArray.toList, ByteArray.toList.loop]
  rfl
theorem PutText_ans (x : List Int) (s : ByteArray) (hx : x.length + s.size < 140737488355000) : Ans (fun k => wire_PutText.f k x s) (x ++ enc s.size ++ Go.Proofs.YtpiafijccnbdbaaDoorW.PrintWords.bytesOf s) := by
  have hl := (enc_len s.size).2
  refine Ans.congr (G := fun k => (wire_put.f k x (s.size : Int)).bind fun t => if t.length + s.size < 140737488355328 then some (t ++ Go.Proofs.YtpiafijccnbdbaaDoorW.PrintWords.bytesOf s) else none) (Ans.bind (put_ans (by omega) (by omega) x (by omega)) ?_) (fun k => ?_)
  · exact Ans.ite_pos (by simp only [List.length_append]; omega) (Ans.some _)
  · rw [wire_PutText.f, slices_CloneU8.f, if_pos (by omega), Option.bind_some]
theorem Text_ok {b : List Int} {at_ most : Int} (s : ByteArray) (rest : List Int) (h0 : 0 ≤ at_) (h1 : at_ ≤ b.length) (hd : b.drop at_.toNat = enc s.size ++ (Go.Proofs.YtpiafijccnbdbaaDoorW.PrintWords.bytesOf s ++ rest)) (hs : (s.size : Int) ≤ 9223372036854775807) (hm : (s.size : Int) ≤ most) :
    wire_Text.f b at_ none most = some (s, at_ + (enc s.size).length + s.size, none) := by
  have hn := Num_none (b := b) (at_ := at_) (lo := 0) (hi := most) s.size (enc s.size).length (by rw [hd]; exact scan_enc (by omega) hs _) (by omega) hm
  have hlen := congrArg List.length hd
  simp only [List.length_drop, List.length_append, bytes_len] at hlen
  rw [wire_Text.f, hn]
  simp only [Option.map_some, Option.isSome_none, Bool.false_eq_true, if_false]
  rw [if_neg (by omega)]
  congr 2
  rw [show (at_ + (enc s.size).length + s.size).toNat = at_.toNat + (enc s.size).length + s.size by omega, show (at_ + ((enc s.size).length : Int)).toNat = at_.toNat + (enc s.size).length by omega, List.drop_take, show at_.toNat + (enc s.size).length + s.size - (at_.toNat + (enc s.size).length) = s.size by omega, ← List.drop_drop, hd, List.drop_left, ← bytes_len s, List.take_left, str_bytes]
theorem Text_some {b : List Int} {at_ most : Int} (x : Int × Int) : wire_Text.f b at_ (some x) most = some (⟨#[]⟩, at_, some x) := rfl
theorem Text_bad {b : List Int} {at_ most c : Int} (h : wire_Num.f b at_ none 0 most = some (0, at_, some (at_, c))) : wire_Text.f b at_ none most = some (⟨#[]⟩, at_, some (at_, c)) := by
  rw [wire_Text.f, h]
  rfl
theorem Text_short {b : List Int} {at_ most n k : Int} (h : wire_Num.f b at_ none 0 most = some (n, at_ + k, none)) (hk : (b.length : Int) - (at_ + k) < n) : wire_Text.f b at_ none most = some (⟨#[]⟩, at_, some (at_, 101)) := by
  rw [wire_Text.f, h]
  simp only [Option.map_some, Option.isSome_none, Bool.false_eq_true, if_false]
  rw [if_pos hk]
end Go.Proofs.YtpiafijccnbdbaaDoor.WATWireRows
