/- Write of plain data, in plain words. By this session. -/
import Derived.Test.YtgpoomkbkckbaaaDoorDiskPlaysA
namespace Go.Proofs.YtgpoomkbkckbaaaDoor.Pure
open Go Go.Proofs.YtgpoomkbkckbaaaDoor.Cm
set_option linter.unusedVariables false
set_option linter.unusedSimpArgs false
set_option maxRecDepth 100000
section
variable {n : Nat} (hn : 2 ≤ n) {i s c a : Int} (ha : 0 ≤ a ∧ a ≤ 9223372036854775807) {d : Bool} {b : List Int} {f p : M}
include hn ha
theorem write2_down (hd : dn d a = true) : disk_Disk_Write_2 n (((), i, b, ()), ((s, (), (), c, a, d, ()), f, p, ())) = some ((ErrV.sent 119, ()), ((s, (), (), c, ar d a, true, ()), f, p, ())) := by
  obtain ⟨n, rfl⟩ : ∃ k, n = k + 1 := ⟨n - 1, by omega⟩
  simp only [disk_Disk_Write_2, up_at (show 1 ≤ n by omega) s c ha d f p, hd]
  rfl
theorem write2_full (hd : dn d a = false) (h : i < 0 ∨ s ≤ i) : disk_Disk_Write_2 n (((), i, b, ()), ((s, (), (), c, a, d, ()), f, p, ())) = some ((ErrV.sent 118, ()), ((s, (), (), c, ar d a, false, ()), f, p, ())) := by
  obtain ⟨n, rfl⟩ : ∃ k, n = k + 1 := ⟨n - 1, by omega⟩
  simp only [disk_Disk_Write_2, up_at (show 1 ≤ n by omega) s c ha d f p, hd, Bool.not_false, Bool.not_true, Bool.false_eq_true, if_false]
  by_cases h0 : i < 0
  · rw [if_pos (decide_eq_true h0)]
  · rw [if_neg (by simpa using h0), if_pos (decide_eq_true (h.resolve_left h0))]
theorem write2_many (hd : dn d a = false) (h0 : 0 ≤ i) (h1 : i < s) (h : 128 < b.length) : disk_Disk_Write_2 n (((), i, b, ()), ((s, (), (), c, a, d, ()), f, p, ())) = some ((ErrV.sent 103, ()), ((s, (), (), c, ar d a, false, ()), f, p, ())) := by
  obtain ⟨n, rfl⟩ : ∃ k, n = k + 1 := ⟨n - 1, by omega⟩
  simp only [disk_Disk_Write_2, up_at (show 1 ≤ n by omega) s c ha d f p, hd, Bool.not_false, Bool.not_true, Bool.false_eq_true, if_false]
  rw [if_neg (by simp; omega), if_neg (by simp; omega), if_pos (decide_eq_true (by omega))]
theorem write2_ok (hd : dn d a = false) (h0 : 0 ≤ i) (h1 : i < s) (h : b.length ≤ 128) (hc : 0 ≤ c ∧ c ≤ 1000000) : disk_Disk_Write_2 n (((), i, b, ()), ((s, (), (), c, a, d, ()), f, p, ())) = some ((ErrV.nil, ()), ((s, (), (), c + 1, ar d a, false, ()), f, mset ki i b p, ())) := by
  obtain ⟨n, rfl⟩ : ∃ k, n = k + 1 := ⟨n - 1, by omega⟩
  simp only [disk_Disk_Write_2, up_at (show 1 ≤ n by omega) s c ha d f p, hd, Bool.not_false, Bool.not_true, Bool.false_eq_true, if_false]
  rw [if_neg (by simp; omega), if_neg (by simp; omega), if_neg (by simp; omega), clone_at (by omega) (by omega)]
  simp only [w64_id (show -9223372036854775808 ≤ c + 1 by omega) (by omega)]
end
end Go.Proofs.YtgpoomkbkckbaaaDoor.Pure
