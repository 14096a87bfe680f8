/- Names, told apart; maps by names; names in order. By this session. -/
import Derived.Test.YthllmcijlhlimaaGreatDoorCodeLoadsH
import Derived.Test.YthllmcijlhlimaaGreatDoorCmFs
import Derived.KernelRfl
namespace Go.Proofs.YthllmcijlhlimaaGreatDoor.Pure
open Go Go.Proofs.YthllmcijlhlimaaGreatDoor.Cm
open Classical
set_option linter.unusedVariables false
set_option maxRecDepth 100000
abbrev SL := List ByteArray
theorem kq (a b : ByteArray) : (keyEq (.str : Ty) a b = true) ↔ a = b := keyS_true a b
abbrev keys {V : Type} (m : List (ByteArray × V)) : SL := m.map Prod.fst
theorem mfind_in {V : Type} {s : ByteArray} : ∀ {m : List (ByteArray × V)}, (mfind (keyEq (.str : Ty)) s m).isSome = true ↔ s ∈ keys m
  | [] => by simp [mfind, keys]
  | p :: m => by
    unfold mfind
    by_cases h : s = p.1
    · rw [if_pos ((kq _ _).2 h)]
      simp [keys, h]
    · rw [if_neg (fun e => h ((kq _ _).1 e)), mfind_in]
      simp [keys, h]
theorem mfind_out {V : Type} {s : ByteArray} {m : List (ByteArray × V)} (h : s ∉ keys m) : mfind (keyEq (.str : Ty)) s m = none := by
  cases e : mfind (keyEq (.str : Ty)) s m with
  | none => rfl
  | some v => exact absurd (mfind_in.1 (by rw [e]; rfl)) h
theorem mfind_mset {V : Type} (k : ByteArray) (v : V) (s : ByteArray) : ∀ m : List (ByteArray × V), mfind (keyEq (.str : Ty)) s (mset (keyEq (.str : Ty)) k v m) = if s = k then some v else mfind (keyEq (.str : Ty)) s m
  | [] => by
    unfold mset mfind
    by_cases h : s = k
    · rw [if_pos ((kq _ _).2 h), if_pos h]
    · rw [if_neg (fun e => h ((kq _ _).1 e)), if_neg h]; rfl
  | p :: m => by
    unfold mset
    by_cases hk : k = p.1
    · rw [if_pos ((kq _ _).2 hk)]
      unfold mfind
      by_cases h : s = k
      · rw [if_pos ((kq _ _).2 h), if_pos h]
      · rw [if_neg (fun e => h ((kq _ _).1 e)), if_neg h, if_neg (fun e => h (((kq _ _).1 e).trans hk.symm))]
    · rw [if_neg (fun e => hk ((kq _ _).1 e))]
      unfold mfind
      by_cases h : s = p.1
      · rw [if_pos ((kq _ _).2 h), if_pos ((kq _ _).2 h), if_neg (fun e => hk (e.symm.trans h))]
      · rw [if_neg (fun e => h ((kq _ _).1 e)), if_neg (fun e => h ((kq _ _).1 e)), mfind_mset k v s m]
theorem mset_new {V : Type} {k : ByteArray} {v : V} : ∀ {m : List (ByteArray × V)}, k ∉ keys m → mset (keyEq (.str : Ty)) k v m = m ++ [(k, v)]
  | [], _ => rfl
  | p :: m, h => by
    simp only [keys, List.map_cons, List.mem_cons, not_or] at h
    unfold mset
    rw [if_neg (fun e => h.1 ((kq _ _).1 e)), mset_new h.2]
    rfl
theorem nodup_len : ∀ {l m : SL}, l.Nodup → (∀ x ∈ l, x ∈ m) → l.length ≤ m.length
  | [], m, _, _ => Nat.zero_le _
  | x :: l, m, h, hs => by
    rw [List.nodup_cons] at h
    obtain ⟨a, b, rfl⟩ := List.append_of_mem (hs x (.head _))
    have : l.length ≤ (a ++ b).length := nodup_len h.2 (fun y hy => by
      have := hs y (.tail _ hy)
      rw [List.mem_append, List.mem_cons] at this
      rw [List.mem_append]
      rcases this with h1 | rfl | h1
      · exact .inl h1
      · exact absurd hy h.1
      · exact .inr h1)
    simp only [List.length_append, List.length_cons] at this ⊢
    omega
theorem insS_perm (x : ByteArray) : ∀ l, (insS x l).Perm (x :: l)
  | [] => .refl _
  | y :: r => by
    unfold insS
    split
    · exact ((insS_perm x r).cons y).trans (.swap x y r)
    · exact .refl _
theorem sortS_perm : ∀ l : SL, (sortS l).Perm l
  | [] => .refl _
  | x :: l => by rw [sortS_cons]; exact (insS_perm x _).trans ((sortS_perm l).cons x)
/-! ### order -/
theorem strLt_eq (x y : ByteArray) : strLt x y = decide (x.data.toList < y.data.toList) := less_eq _ _
theorem str_ext {x y : ByteArray} (h : x.data.toList = y.data.toList) : x = y := by
  cases x; cases y
  congr 1
  exact Array.toList_inj.1 h
theorem strLt_irr (x : ByteArray) : strLt x x = false := by
  rw [strLt_eq]
  exact decide_eq_false (List.lt_irrefl _)
theorem strLt_asym {x y : ByteArray} (h : strLt x y = true) : strLt y x = false := by
  rw [strLt_eq] at h ⊢
  exact decide_eq_false (fun h2 => List.lt_irrefl _ (List.lt_trans (of_decide_eq_true h) h2))
theorem strLt_trans {x y z : ByteArray} (h : strLt x y = true) (h2 : strLt y z = true) : strLt x z = true := by
  rw [strLt_eq] at h h2 ⊢
  exact decide_eq_true (List.lt_trans (of_decide_eq_true h) (of_decide_eq_true h2))
/-- Names that rise. -/
def Rising (l : SL) : Prop := l.Pairwise (fun a b => strLt a b = true)
theorem sortS_rising {l : SL} (h : l.Nodup) : Rising (sortS l) := by
  have h1 := (sortS_spec l).2
  have h2 : (sortS l).Nodup := (sortS_perm l).nodup_iff.2 h
  rw [List.pairwise_map] at h1
  refine List.Pairwise.imp₂ (R := fun a b : ByteArray => a.data.toList ≤ b.data.toList) (S := fun a b => a ≠ b) (fun a b hab hne => ?_) h1 h2
  rw [strLt_eq]
  refine decide_eq_true ?_
  rcases List.le_iff_lt_or_eq.1 hab with h | h
  · exact h
  · exact absurd (str_ext h) hne
theorem rising_nodup {l : SL} (h : Rising l) : l.Nodup := List.Pairwise.imp (fun {a b} hab e => by rw [e, strLt_irr] at hab; cases hab) h
/-- The names that rise and are the same are the same row. -/
theorem rising_sort {l : SL} (h : Rising l) : sortS l = l := by
  have h1 := (sortS_spec l).2
  have hp := sortS_perm l
  have h2 : (sortS l).Pairwise (fun a b => a.data.toList ≤ b.data.toList) := List.pairwise_map.1 h1
  have h3 : l.Pairwise (fun a b => a.data.toList ≤ b.data.toList) := List.Pairwise.imp (fun {a b} hab => List.le_of_lt (by rw [strLt_eq] at hab; exact of_decide_eq_true hab)) h
  exact List.Perm.eq_of_pairwise (le := fun a b : ByteArray => a.data.toList ≤ b.data.toList) (fun a b _ _ ha hb => str_ext (List.le_antisymm ha hb)) h2 h3 hp
end Go.Proofs.YthllmcijlhlimaaGreatDoor.Pure
