/- The disk's functions, in plain words. By this session. -/
import Derived.Test.YtgpoomkbkckbaaaDoorCDiskPlaysR
import Derived.Test.YtgpoomkbkckbaaaDoorCmPl
import Derived.KernelRfl
namespace Go.Proofs.YtgpoomkbkckbaaaDoor.Pure
open Go Go.Proofs.YtgpoomkbkckbaaaDoor.Cm
set_option linter.unusedVariables false
set_option linter.unusedSimpArgs false
set_option maxRecDepth 100000
abbrev M := List (Int × List Int)
abbrev ki : Int → Int → Bool := keyEq (.int .i64)
/-- What a call leaves of the arm; whether the power is gone behind it. -/
def ar (d : Bool) (a : Int) : Int := if d = true then a else if 0 < a then a - 1 else a
def dn (d : Bool) (a : Int) : Bool := if d = true then true else if 0 < a then decide (a = 1) else false
theorem ar_le {d : Bool} {a : Int} (h : 0 ≤ a ∧ a ≤ 9223372036854775807) : 0 ≤ ar d a ∧ ar d a ≤ 9223372036854775807 := by
  unfold ar
  split
  · exact h
  · split <;> omega
theorem up_at {n : Nat} (hn : 1 ≤ n) (s c : Int) {a : Int} (ha : 0 ≤ a ∧ a ≤ 9223372036854775807) (d : Bool) (f p : M) : disk_Disk_up n (((), ()), ((s, (), (), c, a, d, ()), f, p, ())) = some ((!dn d a, ()), ((s, (), (), c, ar d a, dn d a, ()), f, p, ())) := by
  obtain ⟨n, rfl⟩ : ∃ k, n = k + 1 := ⟨n - 1, by omega⟩
  cases d with
  | true => simp only [disk_Disk_up, disk_Disk_up_c4, dn, ar]; rfl
  | false =>
    by_cases h : 0 < a
    · have e : (a - 1 == 0) = decide (a = 1) := by
        rw [Bool.eq_iff_iff]; simp; omega
      simp only [disk_Disk_up, disk_Disk_up_c4, dn, ar, Bool.not_false, if_true, decide_eq_true (show a > 0 from h), w64_id (show -9223372036854775808 ≤ a - 1 by omega) (by omega), h, e]
      rfl
    · simp only [disk_Disk_up, disk_Disk_up_c4, dn, ar, Bool.not_false, if_true, decide_eq_false (show ¬ a > 0 from h), h, Bool.false_eq_true, if_false]
      rfl
theorem clone_at {n : Nat} (hn : 1 ≤ n) {l : List Int} (hl : l.length ≤ 1000000) : slices_Clone_byte_byte n ((l, ()), ()) = some (((), ()), (l, ())) := by
  obtain ⟨n, rfl⟩ : ∃ k, n = k + 1 := ⟨n - 1, by omega⟩
  simp only [slices_Clone_byte_byte]
  rw [if_pos (by simp; omega)]
/-- What a sector has. -/
def sec (f p : M) (i : Int) : Option (List Int) := (mfind ki i p).or (mfind ki i f)
theorem read_at {n : Nat} (hn : 2 ≤ n) {i s : Int} (c a : Int) (f p : M) (h0 : 0 ≤ i) (h1 : i < s) (hl : ((sec f p i).getD []).length ≤ 1000000) :
    disk_Disk_Read n (((), i, ()), ((s, (), (), c, a, false, ()), f, p, ())) = some (((((), ()), ((sec f p i).isSome, ()), (ErrV.nil, ()), ()), ()), ((s, (), (), c, a, false, ()), f, p, (sec f p i).getD [], ())) := by
  obtain ⟨n, rfl⟩ : ∃ k, n = k + 1 := ⟨n - 1, by omega⟩
  have e0 : decide (i < 0) = false := decide_eq_false (by omega)
  have e1 : decide (i ≥ s) = false := decide_eq_false (by omega)
  simp only [disk_Disk_Read, e0, e1, Bool.false_eq_true, if_false]
  unfold sec at hl ⊢
  cases hq : mfind ki i p with
  | some v =>
    rw [hq] at hl
    have hq' : mfind (keyEq (Ty.int .i64)) i p = some v := hq
    simp only [disk_Disk_Read_c8, hq', Option.isSome_some, Option.getD_some, Bool.not_true, Bool.false_eq_true, if_false]
    rw [clone_at (by omega) (by simpa using hl)]
    rfl
  | none =>
    rw [hq] at hl
    have hq' : mfind (keyEq (Ty.int .i64)) i p = none := hq
    simp only [disk_Disk_Read_c8, hq', Option.isSome_none, Option.getD_none, Bool.not_false, if_true]
    rw [clone_at (by omega) (by simpa using hl)]
    rfl
theorem read_full {n : Nat} (hn : 1 ≤ n) {i s : Int} (c a : Int) (f p : M) (h : i < 0 ∨ s ≤ i) :
    disk_Disk_Read n (((), i, ()), ((s, (), (), c, a, false, ()), f, p, ())) = some (((((), ()), (false, ()), (ErrV.sent 118, ()), ()), ()), ((s, (), (), c, a, false, ()), f, p, [], ())) := by
  obtain ⟨n, rfl⟩ : ∃ k, n = k + 1 := ⟨n - 1, by omega⟩
  simp only [disk_Disk_Read, Bool.false_eq_true, if_false]
  by_cases h0 : i < 0
  · rw [if_pos (decide_eq_true h0)]
  · rw [if_neg (by simpa using h0), if_pos (decide_eq_true (h.resolve_left h0))]
theorem read_down {n : Nat} (hn : 1 ≤ n) {i s : Int} (c a : Int) (f p : M) :
    disk_Disk_Read n (((), i, ()), ((s, (), (), c, a, true, ()), f, p, ())) = some (((((), ()), (false, ()), (ErrV.sent 119, ()), ()), ()), ((s, (), (), c, a, true, ()), f, p, [], ())) := by
  obtain ⟨n, rfl⟩ : ∃ k, n = k + 1 := ⟨n - 1, by omega⟩
  simp only [disk_Disk_Read, if_true]
theorem mfind_set (i j : Int) (v : List Int) : ∀ m : M, mfind ki j (mset ki i v m) = if j = i then some v else mfind ki j m
  | [] => by
    simp only [mset, mfind, ki, keyEq]
    by_cases h : j = i
    · simp [h]
    · simp [h]
  | p :: m => by
    simp only [mset]
    by_cases hq : ki i p.1 = true
    · have e : i = p.1 := by simpa [ki, keyEq] using hq
      rw [if_pos hq]
      simp only [mfind]
      by_cases h : j = i
      · rw [if_pos (by simp [ki, keyEq, h]), if_pos h]
      · have hj : ¬ ki j p.1 = true := by rw [← e]; simpa [ki, keyEq] using h
        rw [if_neg (by simpa [ki, keyEq] using h), if_neg h, if_neg hj]
    · rw [if_neg hq]
      simp only [mfind, mfind_set i j v m]
      by_cases h : j = i
      · subst h; rw [if_neg hq, if_pos rfl, if_pos rfl]
      · rw [if_neg h, if_neg h]
end Go.Proofs.YtgpoomkbkckbaaaDoor.Pure
