/- Records by their keys; keys in order. By this session. -/
import Derived.Test.YthliipenkikefaaGreatDoorJourManyD
namespace Go.Proofs.YthliipenkikefaaGreatDoor.Pure
open Go Go.Lib Go.Proofs.YthliipenkikefaaGreatDoor.Cm
open Classical
set_option linter.unusedVariables false
set_option linter.unusedSimpArgs false
set_option maxRecDepth 100000
abbrev SL := List ByteArray
abbrev keys {V : Type} (m : List (ByteArray × V)) : SL := m.map Prod.fst
theorem kq (a b : ByteArray) : (keyEq (.str : Ty) a b = true) ↔ a = b := keyS_true a b
theorem mfind_in {V : Type} {s : ByteArray} : ∀ {m : List (ByteArray × V)}, (mfind (keyEq (.str : Ty)) s m).isSome = true ↔ s ∈ keys m
  | [] => by simp [mfind, keys]
  | p :: m => by
    unfold mfind
    by_cases h : s = p.1
    · rw [if_pos ((kq _ _).2 h)]
      simp [keys, h]
    · rw [if_neg (fun e => h ((kq _ _).1 e)), mfind_in]
      simp [keys, h]
theorem mfind_out {V : Type} {s : ByteArray} {m : List (ByteArray × V)} (h : s ∉ keys m) : mfind (keyEq (.str : Ty)) s m = none := by
  cases e : mfind (keyEq (.str : Ty)) s m with
  | none => rfl
  | some v => exact absurd (mfind_in.1 (by rw [e]; rfl)) h
theorem mfind_mset {V : Type} (k : ByteArray) (v : V) (s : ByteArray) : ∀ m : List (ByteArray × V), mfind (keyEq (.str : Ty)) s (mset (keyEq (.str : Ty)) k v m) = if s = k then some v else mfind (keyEq (.str : Ty)) s m
  | [] => by
    unfold mset mfind
    by_cases h : s = k
    · rw [if_pos ((kq _ _).2 h), if_pos h]
    · rw [if_neg (fun e => h ((kq _ _).1 e)), if_neg h]; rfl
  | p :: m => by
    unfold mset
    by_cases hk : k = p.1
    · rw [if_pos ((kq _ _).2 hk)]
      unfold mfind
      by_cases h : s = k
      · rw [if_pos ((kq _ _).2 h), if_pos h]
      · rw [if_neg (fun e => h ((kq _ _).1 e)), if_neg h, if_neg (fun e => h (((kq _ _).1 e).trans hk.symm))]
    · rw [if_neg (fun e => hk ((kq _ _).1 e))]
      unfold mfind
      by_cases h : s = p.1
      · rw [if_pos ((kq _ _).2 h), if_pos ((kq _ _).2 h), if_neg (fun e => hk (e.symm.trans h))]
      · rw [if_neg (fun e => h ((kq _ _).1 e)), if_neg (fun e => h ((kq _ _).1 e)), mfind_mset k v s m]
theorem mset_new {V : Type} {k : ByteArray} {v : V} : ∀ {m : List (ByteArray × V)}, k ∉ keys m → mset (keyEq (.str : Ty)) k v m = m ++ [(k, v)]
  | [], _ => rfl
  | p :: m, h => by
    simp only [keys, List.map_cons, List.mem_cons, not_or] at h
    unfold mset
    rw [if_neg (fun e => h.1 ((kq _ _).1 e)), mset_new h.2]
    rfl
theorem nodup_len : ∀ {l m : SL}, l.Nodup → (∀ x ∈ l, x ∈ m) → l.length ≤ m.length
  | [], m, _, _ => Nat.zero_le _
  | x :: l, m, h, hs => by
    rw [List.nodup_cons] at h
    obtain ⟨a, b, rfl⟩ := List.append_of_mem (hs x (.head _))
    have : l.length ≤ (a ++ b).length := nodup_len h.2 (fun y hy => by
      have := hs y (.tail _ hy)
      rw [List.mem_append, List.mem_cons] at this
      rw [List.mem_append]
      rcases this with h1 | rfl | h1
      · exact .inl h1
      · exact absurd hy h.1
      · exact .inr h1)
    simp only [List.length_append, List.length_cons] at this ⊢
    omega
theorem mset_keys2 (k : ByteArray) (v : ByteArray) : ∀ m : MM, keys (mset ks k v m) = if k ∈ keys m then keys m else keys m ++ [k]
  | [] => by simp [mset, keys]
  | p :: m => by
    unfold mset
    by_cases h : k = p.1
    · rw [if_pos ((kq _ _).2 h), if_pos (by simp [keys, h])]
      simp [keys, h]
    · rw [if_neg (fun e => h ((kq _ _).1 e))]
      have ih := mset_keys2 k v m
      show p.1 :: keys (mset ks k v m) = _
      rw [ih]
      by_cases h2 : k ∈ keys m
      · rw [if_pos h2, if_pos (by simp only [keys, List.map_cons, List.mem_cons]; exact .inr h2)]
        rfl
      · rw [if_neg h2, if_neg (by simp only [keys, List.map_cons, List.mem_cons]; exact fun e => e.elim h h2)]
        rfl
theorem mset_nodup {k v : ByteArray} {m : MM} (h : (keys m).Nodup) : (keys (mset ks k v m)).Nodup := by
  rw [mset_keys2]
  split
  · exact h
  · rename_i h2
    rw [List.nodup_append]
    exact ⟨h, by simp, fun a ha b hb e => by simp at hb; subst hb; subst e; exact h2 ha⟩
theorem mdel_sub (k : ByteArray) : ∀ m : MM, (mdel ks k m).Sublist m
  | [] => .slnil
  | p :: m => by
    unfold mdel
    split
    · exact .cons _ (.refl _)
    · exact .cons_cons _ (mdel_sub k m)
theorem mdel_nodup {k : ByteArray} {m : MM} (h : (keys m).Nodup) : (keys (mdel ks k m)).Nodup := ((mdel_sub k m).map Prod.fst).nodup h
theorem mfind_mdel {k s : ByteArray} : ∀ {m : MM}, (keys m).Nodup → mfind ks s (mdel ks k m) = if s = k then none else mfind ks s m
  | [], _ => by simp [mdel, mfind]
  | p :: m, h => by
    have h : (p.1 :: keys m).Nodup := h
    rw [List.nodup_cons] at h
    unfold mdel
    by_cases hk : k = p.1
    · rw [if_pos ((kq _ _).2 hk)]
      by_cases hs : s = k
      · rw [if_pos hs]
        exact mfind_out (by rw [hs, hk]; exact h.1)
      · rw [if_neg hs]
        conv => rhs; unfold mfind
        rw [if_neg (fun e => hs (((kq _ _).1 e).trans hk.symm))]
    · rw [if_neg (fun e => hk ((kq _ _).1 e))]
      unfold mfind
      by_cases hs : s = p.1
      · rw [if_pos ((kq _ _).2 hs), if_pos ((kq _ _).2 hs), if_neg (fun e => hk (e.symm.trans hs))]
      · rw [if_neg (fun e => hs ((kq _ _).1 e)), if_neg (fun e => hs ((kq _ _).1 e)), mfind_mdel h.2]
theorem appl_nodup {m : MM} (h : (keys m).Nodup) : ∀ l : List ChT, (keys (appl m l)).Nodup := by
  intro l
  induction l generalizing m with
  | nil => exact h
  | cons c l ih =>
    show (keys (appl (apC m c) l)).Nodup
    refine ih ?_
    unfold apC
    split
    · exact mdel_nodup h
    · exact mset_nodup h
/-! ### order -/
theorem strLt_eq (x y : ByteArray) : strLt x y = decide (x.data.toList < y.data.toList) := less_eq _ _
theorem str_ext {x y : ByteArray} (h : x.data.toList = y.data.toList) : x = y := by
  cases x; cases y
  congr 1
  exact Array.toList_inj.1 h
theorem strLt_irr (x : ByteArray) : strLt x x = false := by
  rw [strLt_eq]
  exact decide_eq_false (List.lt_irrefl _)
theorem strLt_asym {x y : ByteArray} (h : strLt x y = true) : strLt y x = false := by
  rw [strLt_eq] at h ⊢
  exact decide_eq_false (fun h2 => List.lt_irrefl _ (List.lt_trans (of_decide_eq_true h) h2))
theorem strLt_trans {x y z : ByteArray} (h : strLt x y = true) (h2 : strLt y z = true) : strLt x z = true := by
  rw [strLt_eq] at h h2 ⊢
  exact decide_eq_true (List.lt_trans (of_decide_eq_true h) (of_decide_eq_true h2))
/-- Names that rise. -/
def Rising (l : SL) : Prop := l.Pairwise (fun a b => strLt a b = true)
theorem sortS_rising {l : SL} (h : l.Nodup) : Rising (sortS l) := by
  have h1 := (sortS_spec l).2
  have h2 : (sortS l).Nodup := (sortS_perm l).nodup_iff.2 h
  rw [List.pairwise_map] at h1
  refine List.Pairwise.imp₂ (R := fun a b : ByteArray => a.data.toList ≤ b.data.toList) (S := fun a b => a ≠ b) (fun a b hab hne => ?_) h1 h2
  rw [strLt_eq]
  refine decide_eq_true ?_
  rcases List.le_iff_lt_or_eq.1 hab with h | h
  · exact h
  · exact absurd (str_ext h) hne
theorem rising_nodup {l : SL} (h : Rising l) : l.Nodup := List.Pairwise.imp (fun {a b} hab e => by rw [e, strLt_irr] at hab; cases hab) h
/-- The names that rise and are the same are the same row. -/
theorem rising_sort {l : SL} (h : Rising l) : sortS l = l := by
  have h1 := (sortS_spec l).2
  have hp := sortS_perm l
  have h2 : (sortS l).Pairwise (fun a b => a.data.toList ≤ b.data.toList) := List.pairwise_map.1 h1
  have h3 : l.Pairwise (fun a b => a.data.toList ≤ b.data.toList) := List.Pairwise.imp (fun {a b} hab => List.le_of_lt (by rw [strLt_eq] at hab; exact of_decide_eq_true hab)) h
  exact List.Perm.eq_of_pairwise (le := fun a b : ByteArray => a.data.toList ≤ b.data.toList) (fun a b _ _ ha hb => str_ext (List.le_antisymm ha hb)) h2 h3 hp
/-- Rising rows of the same names are the same row. -/
theorem rising_eq {a b : SL} (ha : Rising a) (hb : Rising b) (h : ∀ x, x ∈ a ↔ x ∈ b) : a = b := by
  have le : ∀ {l : SL}, Rising l → l.Pairwise (fun a b => a.data.toList ≤ b.data.toList) := fun h => List.Pairwise.imp (fun {a b} hab => List.le_of_lt (by rw [strLt_eq] at hab; exact of_decide_eq_true hab)) h
  have hp : a.Perm b := (List.perm_ext_iff_of_nodup (rising_nodup ha) (rising_nodup hb)).2 h
  exact List.Perm.eq_of_pairwise (le := fun a b : ByteArray => a.data.toList ≤ b.data.toList) (fun a b _ _ ha hb => str_ext (List.le_antisymm ha hb)) (le ha) (le hb) hp
theorem SameTexts_at {n : Nat} (l m : SL) (hn : 10 + l.length ≤ n) (hl : l.length < 1000000000) : ref_SameTexts n ((l, m, ()), ()) = some ((decide (l = m), ()), ()) := by
  obtain ⟨n, rfl⟩ : ∃ k, n = k + 1 := ⟨n - 1, by omega⟩
  simp only [ref_SameTexts]
  by_cases hlen : l.length = m.length
  · rw [if_neg (by simp [hlen])]
    have a := for_inv (F := ref_SameTexts_l4 n) (len := l.length) (st := fun i => ((l, m, (i : Int), ()), ())) (fun i => l.take i = m.take i) (fun r => (r = some (.inl ((), ())) ∧ l = m) ∨ (r = some (.inr (.inl ((false, ()), ()))) ∧ l ≠ m)) (by simp) (fun i k hi hI => by
      simp only [ref_SameTexts_l4]
      rw [if_pos (decide_eq_true (show (i : Int) < (l.length : Int) by omega)), if_pos (show 0 ≤ (i : Int) ∧ (i : Int) < (l.length : Int) from ⟨by omega, by omega⟩), if_pos (show 0 ≤ (i : Int) ∧ (i : Int) < (m.length : Int) from ⟨by omega, by omega⟩)]
      rw [rdT_nat, rdT_nat, strEq_iff]
      by_cases he : l.getD i (Ty.dflt .str) = m.getD i (Ty.dflt .str)
      · refine .inl ⟨take_eq_succ hI hi (by omega) _ he, ?_⟩
        rw [decide_eq_true he, if_neg (by decide), w64_up i (by omega)]
      · refine .inr (.inr ⟨?_, ne_of_getD _ he⟩)
        rw [decide_eq_false he, if_pos (by decide)]) (fun k hI => by
      rw [List.take_length, hlen, List.take_length] at hI
      refine .inl ⟨?_, hI⟩
      simp only [ref_SameTexts_l4]
      rw [if_neg (by simp)]) n (by omega)
    rw [show (0 : Int) = ((0 : Nat) : Int) from rfl]
    rcases a with ⟨a, h⟩ | ⟨a, h⟩
    · rw [a, decide_eq_true h]
    · rw [a, decide_eq_false h]
  · rw [if_pos (by simp; omega), decide_eq_false (fun h => hlen (by rw [h]))]
end Go.Proofs.YthliipenkikefaaGreatDoor.Pure
