/- Plain data: what the plain functions' words are. By this session. -/
import Derived.Test.YtnajjhjbkanigaaDoorCmB
import Derived.Laws.BitsAllLaws
import Derived.ProofKit
namespace Go.Proofs.YtnajjhjbkanigaaDoor.Cm
open Go
set_option linter.unusedVariables false
theorem for_inv {S R : Type} {len : Nat} {F : Nat → S → R} {st : Nat → S} (I : Nat → Prop) (Q : R → Prop) (h0 : I 0) (step : ∀ i k, i < len → I i → (I (i + 1) ∧ F (k + 1) (st i) = F k (st (i + 1))) ∨ Q (F (k + 1) (st i)))
    (last : ∀ k, I len → Q (F (k + 1) (st len))) : ∀ k, len < k → Q (F k (st 0)) := by
  have main : ∀ d i k, i + d = len → I i → d < k → Q (F k (st i)) := by
    intro d
    induction d with
    | zero =>
      intro i k hi hI hk
      obtain ⟨k, rfl⟩ : ∃ m, k = m + 1 := ⟨k - 1, by omega⟩
      obtain rfl : i = len := by omega
      exact last k hI
    | succ d ih =>
      intro i k hi hI hk
      obtain ⟨k, rfl⟩ : ∃ m, k = m + 1 := ⟨k - 1, by omega⟩
      rcases step i k (by omega) hI with ⟨h1, h2⟩ | h
      · rw [h2]; exact ih (i + 1) k (by omega) h1 (by omega)
      · exact h
  exact fun k hk => main len 0 k (by omega) h0 hk
theorem for_all {S R : Type} {len : Nat} {F : Nat → S → R} (st : Nat → S) {r : R} (step : ∀ i k, i < len → F (k + 1) (st i) = F k (st (i + 1))) (last : ∀ k, F (k + 1) (st len) = r) {k : Nat} (hk : len < k) : F k (st 0) = r :=
  for_inv (fun _ => True) (fun x => x = r) trivial (fun i k hi _ => .inl ⟨trivial, step i k hi⟩) (fun k _ => last k) k hk
/-- What 'Number' makes of a number. -/
def num (x m : Int) : Int := if Int.tmod x m < 0 then Int.tmod x m + m else Int.tmod x m
theorem tmod_b (x m : Int) (hm : 0 < m) : -m < Int.tmod x m ∧ Int.tmod x m < m := by
  refine ⟨?_, Int.tmod_lt_of_pos x hm⟩
  have h := Int.natAbs_tmod x m
  have h2 : (Int.tmod x m).natAbs < m.natAbs := by
    rw [h]
    exact Nat.mod_lt _ (by omega)
  omega
theorem num_range (x : Int) {m : Int} (hm : 0 < m) : 0 ≤ num x m ∧ num x m < m := by
  have := tmod_b x m hm
  unfold num
  split <;> omega
theorem num_id {x m : Int} (h0 : 0 ≤ x) (h1 : x < m) : num x m = x := by
  unfold num
  rw [Int.tmod_eq_of_lt h0 h1, if_neg (by omega)]
theorem num_num (x : Int) {m : Int} (hm : 0 < m) : num (num x m) m = num x m := num_id (num_range x hm).1 (num_range x hm).2
theorem num_nat (x : Int) {m : Int} (hm : 0 < m) : ∃ i : Nat, (i : Int) < m ∧ num x m = i := by
  have := num_range x hm
  exact ⟨(num x m).toNat, by omega, by omega⟩
def yes : Option ((Bool × Unit) × Unit) → Bool
  | some ((true, _), _) => true
  | _ => false
theorem of_yes : ∀ {r : Option ((Bool × Unit) × Unit)}, yes r = true → r = some ((true, ()), ())
  | some ((true, _), _), _ => rfl
  | some ((false, _), _), h => by cases h
  | none, h => by cases h
theorem all_range {n : Nat} {p : Nat → Bool} (h : (List.range n).all p = true) {i : Nat} (hi : i < n) : p i = true := List.all_eq_true.1 h i (List.mem_range.2 hi)
theorem lit_i64 {n : Int} (h : (Lit.int .i64 n).wf = true) : -9223372036854775808 ≤ n ∧ n ≤ 9223372036854775807 := by
  simpa [Lit.wf, IntKind.min, IntKind.max, IntKind.bits, IntKind.signed] using h
theorem w64 (x : Int) : IntKind.i64.wrap x = (x + 9223372036854775808) % 18446744073709551616 - 9223372036854775808 := by rw [IntKind.wrap_i64]
theorem w64_id {x : Int} (h0 : -9223372036854775808 ≤ x) (h1 : x ≤ 9223372036854775807) : IntKind.i64.wrap x = x := by rw [w64]; omega
theorem w64_up (i : Nat) (h : i < 4611686018427387904) : IntKind.i64.wrap ((i : Int) + 1) = ((i + 1 : Nat) : Int) := by rw [w64_id (by omega) (by omega)]; rfl
theorem rdT_nat {t : Ty} (l : List t.T) (i : Nat) : rdT t l (i : Int) = l.getD i t.dflt := rfl
theorem strEq_iff (x y : ByteArray) : strEq x y = decide (x = y) := by
  unfold strEq
  by_cases h : x = y
  · subst h; rw [decide_eq_true rfl]; exact beq_self_eq_true _
  · have h2 : x.data.toList ≠ y.data.toList := fun e => h (by
      cases x; cases y
      congr 1
      exact Array.toList_inj.1 e)
    rw [decide_eq_false h]
    exact beq_false_of_ne h2
theorem take_succ {α : Type} (l : List α) (i : Nat) (h : i < l.length) (d : α) : l.take (i + 1) = l.take i ++ [l.getD i d] := by
  rw [List.take_succ_eq_append_getElem h, List.getD_eq_getElem?_getD, List.getElem?_eq_getElem h]; rfl
theorem getD_mem {α : Type} (l : List α) (i : Nat) (h : i < l.length) (d : α) : l.getD i d ∈ l := by
  rw [List.getD_eq_getElem?_getD, List.getElem?_eq_getElem h]; exact List.getElem_mem h
/-- Two lists, alike so far. -/
theorem take_eq_succ {α : Type} {l m : List α} {i : Nat} (h : l.take i = m.take i) (hl : i < l.length) (hm : i < m.length) (d : α) (he : l.getD i d = m.getD i d) : l.take (i + 1) = m.take (i + 1) := by
  rw [take_succ l i hl d, take_succ m i hm d, h, he]
theorem ne_of_getD {α : Type} {l m : List α} {i : Nat} (d : α) (he : l.getD i d ≠ m.getD i d) : l ≠ m := fun h => he (by rw [h])
end Go.Proofs.YtnajjhjbkanigaaDoor.Cm
