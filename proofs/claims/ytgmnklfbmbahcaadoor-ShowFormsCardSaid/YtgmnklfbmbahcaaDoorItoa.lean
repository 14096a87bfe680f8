/- Whole numbers' texts: one number one text. By this session. -/
import Derived.Lib.ItoaNum
import Derived.Lib.ItoaMem
import Derived.Lib.ItoaLen
namespace Go.Proofs.YtgmnklfbmbahcaaDoor.ItoaA
open Go.Lib

def val (l : List UInt8) : Nat := l.foldl (fun a c => a * 10 + (c.toNat - 48)) 0
theorem val_snoc (l : List UInt8) (c : UInt8) : val (l ++ [c]) = val l * 10 + (c.toNat - 48) := by simp [val]
theorem digit_val (d : Nat) (h : d < 10) : (UInt8.ofNat (48 + d)).toNat - 48 = d := by
  rw [UInt8.toNat_ofNat']
  omega
theorem val_dec (u : Nat) : val (decDigits u) = u := by
  induction u using Nat.strongRecOn with
  | ind u ih =>
    rw [decDigits]
    split
    · rename_i h
      show val ([] ++ [_]) = u
      rw [val_snoc, digit_val u h]
      simp [val]
    · rename_i h
      rw [val_snoc, ih (u / 10) (by omega), digit_val (u % 10) (by omega)]
      omega
theorem dec_inj {a b : Nat} (h : decDigits a = decDigits b) : a = b := by rw [← val_dec a, ← val_dec b, h]
theorem itoa_inj {a b : Nat} (h : itoa (a : Int) = itoa (b : Int)) : a = b := by
  rw [itoa_nonneg, itoa_nonneg] at h
  exact dec_inj h
end Go.Proofs.YtgmnklfbmbahcaaDoor.ItoaA
