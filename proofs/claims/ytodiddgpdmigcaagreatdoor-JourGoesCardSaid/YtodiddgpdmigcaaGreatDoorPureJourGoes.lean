/- JourGoes, in plain words: a record goes on being set. By this session. -/
import Derived.Test.YtodiddgpdmigcaaGreatDoorJourGoesM
import Derived.KernelRfl
namespace Go.Proofs.YtodiddgpdmigcaaGreatDoor.Pure
open Go Go.Lib Go.Proofs.YtodiddgpdmigcaaGreatDoor.Cm
open Classical
set_option linter.unusedVariables false
set_option linter.unusedSimpArgs false
set_option maxRecDepth 100000
abbrev SL := List ByteArray
abbrev keys {V : Type} (m : List (ByteArray × V)) : SL := m.map Prod.fst
theorem kq (a b : ByteArray) : (keyEq (.str : Ty) a b = true) ↔ a = b := keyS_true a b
theorem mfind_in {V : Type} {s : ByteArray} : ∀ {m : List (ByteArray × V)}, (mfind (keyEq (.str : Ty)) s m).isSome = true ↔ s ∈ keys m
  | [] => by simp [mfind, keys]
  | p :: m => by
    unfold mfind
    by_cases h : s = p.1
    · rw [if_pos ((kq _ _).2 h)]
      simp [keys, h]
    · rw [if_neg (fun e => h ((kq _ _).1 e)), mfind_in]
      simp [keys, h]
theorem mfind_out {V : Type} {s : ByteArray} {m : List (ByteArray × V)} (h : s ∉ keys m) : mfind (keyEq (.str : Ty)) s m = none := by
  cases e : mfind (keyEq (.str : Ty)) s m with
  | none => rfl
  | some v => exact absurd (mfind_in.1 (by rw [e]; rfl)) h
theorem mfind_mset {V : Type} (k : ByteArray) (v : V) (s : ByteArray) : ∀ m : List (ByteArray × V), mfind (keyEq (.str : Ty)) s (mset (keyEq (.str : Ty)) k v m) = if s = k then some v else mfind (keyEq (.str : Ty)) s m
  | [] => by
    unfold mset mfind
    by_cases h : s = k
    · rw [if_pos ((kq _ _).2 h), if_pos h]
    · rw [if_neg (fun e => h ((kq _ _).1 e)), if_neg h]; rfl
  | p :: m => by
    unfold mset
    by_cases hk : k = p.1
    · rw [if_pos ((kq _ _).2 hk)]
      unfold mfind
      by_cases h : s = k
      · rw [if_pos ((kq _ _).2 h), if_pos h]
      · rw [if_neg (fun e => h ((kq _ _).1 e)), if_neg h, if_neg (fun e => h (((kq _ _).1 e).trans hk.symm))]
    · rw [if_neg (fun e => hk ((kq _ _).1 e))]
      unfold mfind
      by_cases h : s = p.1
      · rw [if_pos ((kq _ _).2 h), if_pos ((kq _ _).2 h), if_neg (fun e => hk (e.symm.trans h))]
      · rw [if_neg (fun e => h ((kq _ _).1 e)), if_neg (fun e => h ((kq _ _).1 e)), mfind_mset k v s m]
theorem mset_new {V : Type} {k : ByteArray} {v : V} : ∀ {m : List (ByteArray × V)}, k ∉ keys m → mset (keyEq (.str : Ty)) k v m = m ++ [(k, v)]
  | [], _ => rfl
  | p :: m, h => by
    simp only [keys, List.map_cons, List.mem_cons, not_or] at h
    unfold mset
    rw [if_neg (fun e => h.1 ((kq _ _).1 e)), mset_new h.2]
    rfl
theorem nodup_len : ∀ {l m : SL}, l.Nodup → (∀ x ∈ l, x ∈ m) → l.length ≤ m.length
  | [], m, _, _ => Nat.zero_le _
  | x :: l, m, h, hs => by
    rw [List.nodup_cons] at h
    obtain ⟨a, b, rfl⟩ := List.append_of_mem (hs x (.head _))
    have : l.length ≤ (a ++ b).length := nodup_len h.2 (fun y hy => by
      have := hs y (.tail _ hy)
      rw [List.mem_append, List.mem_cons] at this
      rw [List.mem_append]
      rcases this with h1 | rfl | h1
      · exact .inl h1
      · exact absurd hy h.1
      · exact .inr h1)
    simp only [List.length_append, List.length_cons] at this ⊢
    omega
theorem mset_keys2 (k : ByteArray) (v : ByteArray) : ∀ m : MM, keys (mset ks k v m) = if k ∈ keys m then keys m else keys m ++ [k]
  | [] => by simp [mset, keys]
  | p :: m => by
    unfold mset
    by_cases h : k = p.1
    · rw [if_pos ((kq _ _).2 h), if_pos (by simp [keys, h])]
      simp [keys, h]
    · rw [if_neg (fun e => h ((kq _ _).1 e))]
      have ih := mset_keys2 k v m
      show p.1 :: keys (mset ks k v m) = _
      rw [ih]
      by_cases h2 : k ∈ keys m
      · rw [if_pos h2, if_pos (by simp only [keys, List.map_cons, List.mem_cons]; exact .inr h2)]
        rfl
      · rw [if_neg h2, if_neg (by simp only [keys, List.map_cons, List.mem_cons]; exact fun e => e.elim h h2)]
        rfl
theorem mset_nodup {k v : ByteArray} {m : MM} (h : (keys m).Nodup) : (keys (mset ks k v m)).Nodup := by
  rw [mset_keys2]
  split
  · exact h
  · rename_i h2
    rw [List.nodup_append]
    exact ⟨h, by simp, fun a ha b hb e => by simp at hb; subst hb; subst e; exact h2 ha⟩
theorem mdel_sub (k : ByteArray) : ∀ m : MM, (mdel ks k m).Sublist m
  | [] => .slnil
  | p :: m => by
    unfold mdel
    split
    · exact .cons _ (.refl _)
    · exact .cons_cons _ (mdel_sub k m)
theorem mdel_nodup {k : ByteArray} {m : MM} (h : (keys m).Nodup) : (keys (mdel ks k m)).Nodup := ((mdel_sub k m).map Prod.fst).nodup h
theorem mfind_mdel {k s : ByteArray} : ∀ {m : MM}, (keys m).Nodup → mfind ks s (mdel ks k m) = if s = k then none else mfind ks s m
  | [], _ => by simp [mdel, mfind]
  | p :: m, h => by
    have h : (p.1 :: keys m).Nodup := h
    rw [List.nodup_cons] at h
    unfold mdel
    by_cases hk : k = p.1
    · rw [if_pos ((kq _ _).2 hk)]
      by_cases hs : s = k
      · rw [if_pos hs]
        exact mfind_out (by rw [hs, hk]; exact h.1)
      · rw [if_neg hs]
        conv => rhs; unfold mfind
        rw [if_neg (fun e => hs (((kq _ _).1 e).trans hk.symm))]
    · rw [if_neg (fun e => hk ((kq _ _).1 e))]
      unfold mfind
      by_cases hs : s = p.1
      · rw [if_pos ((kq _ _).2 hs), if_pos ((kq _ _).2 hs), if_neg (fun e => hk (e.symm.trans hs))]
      · rw [if_neg (fun e => hs ((kq _ _).1 e)), if_neg (fun e => hs ((kq _ _).1 e)), mfind_mdel h.2]
theorem appl_nodup {m : MM} (h : (keys m).Nodup) : ∀ l : List ChT, (keys (appl m l)).Nodup := by
  intro l
  induction l generalizing m with
  | nil => exact h
  | cons c l ih =>
    show (keys (appl (apC m c) l)).Nodup
    refine ih ?_
    unfold apC
    split
    · exact mdel_nodup h
    · exact mset_nodup h
/-! ### order -/
theorem strLt_eq (x y : ByteArray) : strLt x y = decide (x.data.toList < y.data.toList) := less_eq _ _
theorem str_ext {x y : ByteArray} (h : x.data.toList = y.data.toList) : x = y := by
  cases x; cases y
  congr 1
  exact Array.toList_inj.1 h
theorem strLt_irr (x : ByteArray) : strLt x x = false := by
  rw [strLt_eq]
  exact decide_eq_false (List.lt_irrefl _)
theorem strLt_asym {x y : ByteArray} (h : strLt x y = true) : strLt y x = false := by
  rw [strLt_eq] at h ⊢
  exact decide_eq_false (fun h2 => List.lt_irrefl _ (List.lt_trans (of_decide_eq_true h) h2))
theorem strLt_trans {x y z : ByteArray} (h : strLt x y = true) (h2 : strLt y z = true) : strLt x z = true := by
  rw [strLt_eq] at h h2 ⊢
  exact decide_eq_true (List.lt_trans (of_decide_eq_true h) (of_decide_eq_true h2))
/-- Names that rise. -/
def Rising (l : SL) : Prop := l.Pairwise (fun a b => strLt a b = true)
theorem sortS_rising {l : SL} (h : l.Nodup) : Rising (sortS l) := by
  have h1 := (sortS_spec l).2
  have h2 : (sortS l).Nodup := (sortS_perm l).nodup_iff.2 h
  rw [List.pairwise_map] at h1
  refine List.Pairwise.imp₂ (R := fun a b : ByteArray => a.data.toList ≤ b.data.toList) (S := fun a b => a ≠ b) (fun a b hab hne => ?_) h1 h2
  rw [strLt_eq]
  refine decide_eq_true ?_
  rcases List.le_iff_lt_or_eq.1 hab with h | h
  · exact h
  · exact absurd (str_ext h) hne
theorem rising_nodup {l : SL} (h : Rising l) : l.Nodup := List.Pairwise.imp (fun {a b} hab e => by rw [e, strLt_irr] at hab; cases hab) h
/-- The names that rise and are the same are the same row. -/
theorem rising_sort {l : SL} (h : Rising l) : sortS l = l := by
  have h1 := (sortS_spec l).2
  have hp := sortS_perm l
  have h2 : (sortS l).Pairwise (fun a b => a.data.toList ≤ b.data.toList) := List.pairwise_map.1 h1
  have h3 : l.Pairwise (fun a b => a.data.toList ≤ b.data.toList) := List.Pairwise.imp (fun {a b} hab => List.le_of_lt (by rw [strLt_eq] at hab; exact of_decide_eq_true hab)) h
  exact List.Perm.eq_of_pairwise (le := fun a b : ByteArray => a.data.toList ≤ b.data.toList) (fun a b _ _ ha hb => str_ext (List.le_antisymm ha hb)) h2 h3 hp
/-- Rising rows of the same names are the same row. -/
theorem rising_eq {a b : SL} (ha : Rising a) (hb : Rising b) (h : ∀ x, x ∈ a ↔ x ∈ b) : a = b := by
  have le : ∀ {l : SL}, Rising l → l.Pairwise (fun a b => a.data.toList ≤ b.data.toList) := fun h => List.Pairwise.imp (fun {a b} hab => List.le_of_lt (by rw [strLt_eq] at hab; exact of_decide_eq_true hab)) h
  have hp : a.Perm b := (List.perm_ext_iff_of_nodup (rising_nodup ha) (rising_nodup hb)).2 h
  exact List.Perm.eq_of_pairwise (le := fun a b : ByteArray => a.data.toList ≤ b.data.toList) (fun a b _ _ ha hb => str_ext (List.le_antisymm ha hb)) (le ha) (le hb) hp
theorem SameTexts_at {n : Nat} (l m : SL) (hn : 10 + l.length ≤ n) (hl : l.length < 1000000000) : ref_SameTexts n ((l, m, ()), ()) = some ((decide (l = m), ()), ()) := by
  obtain ⟨n, rfl⟩ : ∃ k, n = k + 1 := ⟨n - 1, by omega⟩
  simp only [ref_SameTexts]
  by_cases hlen : l.length = m.length
  · rw [if_neg (by simp [hlen])]
    have a := for_inv (F := ref_SameTexts_l4 n) (len := l.length) (st := fun i => ((l, m, (i : Int), ()), ())) (fun i => l.take i = m.take i) (fun r => (r = some (.inl ((), ())) ∧ l = m) ∨ (r = some (.inr (.inl ((false, ()), ()))) ∧ l ≠ m)) (by simp) (fun i k hi hI => by
      simp only [ref_SameTexts_l4]
      rw [if_pos (decide_eq_true (show (i : Int) < (l.length : Int) by omega)), if_pos (show 0 ≤ (i : Int) ∧ (i : Int) < (l.length : Int) from ⟨by omega, by omega⟩), if_pos (show 0 ≤ (i : Int) ∧ (i : Int) < (m.length : Int) from ⟨by omega, by omega⟩)]
      rw [rdT_nat, rdT_nat, strEq_iff]
      by_cases he : l.getD i (Ty.dflt .str) = m.getD i (Ty.dflt .str)
      · refine .inl ⟨take_eq_succ hI hi (by omega) _ he, ?_⟩
        rw [decide_eq_true he, if_neg (by decide), w64_up i (by omega)]
      · refine .inr (.inr ⟨?_, ne_of_getD _ he⟩)
        rw [decide_eq_false he, if_pos (by decide)]) (fun k hI => by
      rw [List.take_length, hlen, List.take_length] at hI
      refine .inl ⟨?_, hI⟩
      simp only [ref_SameTexts_l4]
      rw [if_neg (by simp)]) n (by omega)
    rw [show (0 : Int) = ((0 : Nat) : Int) from rfl]
    rcases a with ⟨a, h⟩ | ⟨a, h⟩
    · rw [a, decide_eq_true h]
    · rw [a, decide_eq_false h]
  · rw [if_pos (by simp; omega), decide_eq_false (fun h => hlen (by rw [h]))]
end Go.Proofs.YtodiddgpdmigcaaGreatDoor.Pure

namespace Go.Proofs.YtodiddgpdmigcaaGreatDoor.Pure
open Go Go.Lib Go.Proofs.YtodiddgpdmigcaaGreatDoor.Cm
open Classical
set_option linter.unusedVariables false
set_option linter.unusedSimpArgs false
set_option maxRecDepth 100000
/-! ### records -/
def Sim (a b : MM) : Prop := ∀ s, mfind ks s a = mfind ks s b
theorem Sim.symm {a b : MM} (h : Sim a b) : Sim b a := fun s => (h s).symm
theorem Sim.trans {a b c : MM} (h : Sim a b) (h2 : Sim b c) : Sim a c := fun s => (h s).trans (h2 s)
theorem apC_nodup {m : MM} (h : (keys m).Nodup) (c : ChT) : (keys (apC m c)).Nodup := by
  unfold apC
  split
  · exact mdel_nodup h
  · exact mset_nodup h
theorem mfind_apC {m : MM} (h : (keys m).Nodup) (c : ChT) (s : ByteArray) : mfind ks s (apC m c) = if s = c.1 then (if c.2.2 = true then none else some c.2.1) else mfind ks s m := by
  unfold apC
  split
  · exact mfind_mdel h
  · exact mfind_mset c.1 c.2.1 s m
theorem Sim.apC {a b : MM} (ha : (keys a).Nodup) (hb : (keys b).Nodup) (h : Sim a b) (c : ChT) : Sim (apC a c) (apC b c) := fun s => by
  rw [mfind_apC ha, mfind_apC hb, h s]
theorem Sim.appl : ∀ (l : List ChT) {a b : MM}, (keys a).Nodup → (keys b).Nodup → Sim a b → Sim (appl a l) (appl b l)
  | [], _, _, _, _, h => h
  | c :: l, _, _, ha, hb, h => Sim.appl l (apC_nodup ha c) (apC_nodup hb c) (h.apC ha hb c)
theorem applS_nodup : ∀ (l : List CallT) {m : MM}, (keys m).Nodup → (keys (applS m l)).Nodup
  | [], _, h => h
  | x :: l, _, h => applS_nodup l (appl_nodup h x.2)
theorem applS_append (m : MM) (l : List CallT) (x : CallT) : applS m (l ++ [x]) = appl (applS m l) x.2 := by
  unfold applS
  rw [List.foldl_append]
  rfl
theorem mfind_row (f : ByteArray → ByteArray) (s : ByteArray) : ∀ l : SL, mfind ks s (l.map fun k => (k, f k)) = if s ∈ l then some (f s) else none
  | [] => by rw [if_neg (by simp)]; rfl
  | k :: l => by
    simp only [List.map_cons]
    unfold mfind
    by_cases h : s = k
    · rw [if_pos ((kq _ _).2 h), if_pos (by rw [h]; exact .head _), h]
    · rw [if_neg (fun e => h ((kq _ _).1 e)), mfind_row f s l]
      simp [h]
/-- Records, their keys rising. -/
def recs (m : MM) : MM := (sortS (keysM m)).map fun k => (k, getM m k)
theorem dump_recs (m : MM) : dump m = (recs m).map fun p => ((p.1, p.2, false) : ChT) := by
  unfold dump recs
  rw [List.map_map]
  rfl
theorem recs_keys (m : MM) : keys (recs m) = sortS (keysM m) := by
  unfold recs keys
  rw [List.map_map]
  show (sortS (keysM m)).map (fun k => k) = _
  simp
theorem recs_len (m : MM) : (recs m).length = m.length := by
  unfold recs
  rw [List.length_map, (sortS_perm _).length_eq, List.length_map]
theorem mfind_recs (m : MM) (s : ByteArray) : mfind ks s (recs m) = mfind ks s m := by
  unfold recs
  rw [mfind_row]
  by_cases h : s ∈ keys m
  · rw [if_pos ((sortS_perm _).mem_iff.2 h)]
    have := mfind_in.2 h
    unfold getM
    cases e : mfind ks s m with
    | none => rw [show mfind (keyEq (.str : Ty)) s m = none from e] at this; cases this
    | some v => rfl
  · rw [if_neg (fun e => h ((sortS_perm _).mem_iff.1 e)), show mfind ks s m = none from mfind_out h]
theorem recs_rising {m : MM} (h : (keys m).Nodup) : Rising (keys (recs m)) := by
  rw [recs_keys]
  exact sortS_rising h
/-- Rising records of the same lookups are the same row. -/
theorem row_eq : ∀ {a b : MM}, (keys a).Nodup → keys a = keys b → Sim a b → a = b
  | [], [], _, _, _ => rfl
  | [], q :: b, _, h, _ => by cases h
  | p :: a, [], _, h, _ => by cases h
  | p :: a, q :: b, hn, h, hs => by
    have h1 : p.1 = q.1 := by simp [keys] at h; exact h.1
    have h2 : keys a = keys b := by simp [keys] at h ⊢; exact h.2
    have hn2 : p.1 ∉ keys a ∧ (keys a).Nodup := List.nodup_cons.1 hn
    have hv : p.2 = q.2 := by
      have := hs p.1
      unfold mfind at this
      rw [if_pos ((kq _ _).2 rfl), if_pos ((kq _ _).2 h1)] at this
      injection this
    have hpq : p = q := by
      obtain ⟨p1, p2⟩ := p
      obtain ⟨q1, q2⟩ := q
      simp only at h1 hv
      rw [h1, hv]
    have hrec := row_eq hn2.2 h2 (fun s => by
      have := hs s
      unfold mfind at this
      by_cases e : s = p.1
      · rw [e, show mfind ks p.1 a = none from mfind_out hn2.1, show mfind ks p.1 b = none from mfind_out (by rw [← h2]; exact hn2.1)]
      · rw [if_neg (fun x => e ((kq _ _).1 x)), if_neg (fun x => e (((kq _ _).1 x).trans h1.symm))] at this
        exact this)
    rw [hpq, hrec]
theorem rec_eq {a b : MM} (ha : Rising (keys a)) (hb : Rising (keys b)) (h : Sim a b) : a = b :=
  row_eq (rising_nodup ha) (rising_eq ha hb (fun x => by rw [← mfind_in, ← mfind_in]; rw [show mfind (keyEq (.str : Ty)) x a = mfind (keyEq (.str : Ty)) x b from h x])) h
theorem recs_sim {a b : MM} (ha : (keys a).Nodup) (hb : (keys b).Nodup) (h : Sim a b) : recs a = recs b :=
  rec_eq (recs_rising ha) (recs_rising hb) (fun s => by rw [mfind_recs, mfind_recs, h s])
theorem sim_recs {a b : MM} (h : recs a = recs b) : Sim a b := fun s => by rw [← mfind_recs a, ← mfind_recs b, h]
/-- Records that may be, each key once. -/
def MW (m : MM) : Prop := m.length ≤ 256 ∧ (∀ p ∈ m, p.1.size ≤ 40 ∧ p.2.size ≤ 32768) ∧ (keys m).Nodup
theorem MW.mi {m : MM} (h : MW m) : MI m := ⟨by have := h.1; omega, h.2.1⟩
theorem MW.appl {m : MM} (h : MW m) {l : List ChT} (hb : bad m l = none) : MW (appl m l) := by
  have := h.mi.appl hb
  exact ⟨(bad_none hb).2, this.2, appl_nodup h.2.2 l⟩
theorem MW.nil : MW [] := ⟨by decide, (fun p hp => by cases hp), List.Pairwise.nil⟩
theorem mem_mfind {m : MM} {p : ByteArray × ByteArray} (h : (keys m).Nodup) (hp : p ∈ m) : mfind ks p.1 m = some p.2 := by
  induction m with
  | nil => cases hp
  | cons a m ih =>
    have h2 : a.1 ∉ keys m ∧ (keys m).Nodup := List.nodup_cons.1 h
    unfold mfind
    rcases List.mem_cons.1 hp with rfl | hp
    · rw [if_pos ((kq _ _).2 rfl)]
    · rw [if_neg (fun e => h2.1 (by rw [← (kq _ _).1 e]; exact List.mem_map.2 ⟨p, hp, rfl⟩)), ih h2.2 hp]
theorem MW.sim {a b : MM} (h : MW a) (hb : (keys b).Nodup) (hs : Sim a b) : MW b := by
  refine ⟨?_, fun p hp => ?_, hb⟩
  · have h1 : (keys b).length ≤ (keys a).length := nodup_len hb (fun x hx => by
      rw [← mfind_in] at hx ⊢
      rw [show mfind (keyEq (.str : Ty)) x a = mfind (keyEq (.str : Ty)) x b from hs x]
      exact hx)
    have h2 := h.1
    simp only [keys, List.length_map] at h1
    omega
  · have := mem_mfind hb hp
    rw [← hs] at this
    exact h.2.1 _ (mfind_mem this)
theorem appl_row : ∀ (r : MM) {a : MM}, (keys r).Nodup → (keys a).Nodup → Sim (appl a (r.map fun p => ((p.1, p.2, false) : ChT))) (r ++ a)
  | [], a, _, _ => fun s => rfl
  | p :: r, a, hr, ha => fun s => by
    have h2 : p.1 ∉ keys r ∧ (keys r).Nodup := List.nodup_cons.1 hr
    have ih := appl_row r h2.2 (apC_nodup ha ((p.1, p.2, false) : ChT)) s
    show mfind ks s (appl (apC a (p.1, p.2, false)) (r.map fun p => ((p.1, p.2, false) : ChT))) = _
    rw [ih]
    have app : ∀ (x y : MM), mfind ks s (x ++ y) = (mfind ks s x).or (mfind ks s y) := fun x y => by
      induction x with
      | nil => rfl
      | cons q x ih =>
        simp only [List.cons_append, mfind]
        split
        · rfl
        · exact ih
    rw [app, app, mfind_apC ha]
    have hp : mfind ks s (p :: r) = if ks s p.1 = true then some p.2 else mfind ks s r := rfl
    rw [hp]
    by_cases h : s = p.1
    · subst h
      rw [if_pos rfl, if_pos ((kq _ _).2 rfl), show mfind ks p.1 r = none from mfind_out h2.1]
      rfl
    · rw [if_neg h, if_neg (fun e => h ((kq _ _).1 e))]
theorem appl_dump {m : MM} (h : (keys m).Nodup) : Sim (appl [] (dump m)) m := by
  rw [dump_recs]
  have := appl_row (recs m) (a := []) (rising_nodup (recs_rising h)) .nil
  rw [List.append_nil] at this
  exact this.trans (fun s => mfind_recs m s)
/-! ### the disk's halves -/
def Hf (S : Nat) (f : M) (k : Nat) (l : List CallT) (e last : Nat) : Prop := Ser f ((k + 1) * (S / 2)) l (k * (S / 2)) 0 e last ∧ Stop f S ((k + 1) * (S / 2)) e last
/-- The disk has just these records. -/
def Rest (S : Nat) (f : M) (q : Nat) (m : MM) : Prop := Dk S f q ∧ ((Sim m [] ∧ ∃ l0 e0 l1 e1, Hf S f 0 l0 e0 0 ∧ Hf S f 1 l1 e1 0) ∨
  ∃ k l e n lo eo no, k ≤ 1 ∧ Hf S f k l e n ∧ Hf S f (1 - k) lo eo no ∧ no < n ∧ n ≤ q ∧ Sim m (applS [] l))
/-- The store's own state fits to the disk. -/
def Inv (S : Nat) (f : M) (h e : Int) (q : Nat) (m : MM) : Prop := Dk S f q ∧ ((h = -1 ∧ Sim m [] ∧ ∃ l0 e0 l1 e1, Hf S f 0 l0 e0 0 ∧ Hf S f 1 l1 e1 0) ∨
  ∃ k l e' n lo eo no, k ≤ 1 ∧ h = ((k : Nat) : Int) ∧ e = ((e' : Nat) : Int) ∧ Hf S f k l e' n ∧ Hf S f (1 - k) lo eo no ∧ no < n ∧ n ≤ q ∧ Sim m (applS [] l))
theorem Inv.rest {S : Nat} {f : M} {h e : Int} {q : Nat} {m : MM} (I : Inv S f h e q m) : Rest S f q m := by
  obtain ⟨hd, ⟨-, h2, h3⟩ | ⟨k, l, e', n, lo, eo, no, h1, -, -, h2, h3, h4, h5, h6⟩⟩ := I
  · exact ⟨hd, .inl ⟨h2, h3⟩⟩
  · exact ⟨hd, .inr ⟨k, l, e', n, lo, eo, no, h1, h2, h3, h4, h5, h6⟩⟩
theorem half_le (S : Nat) {k : Nat} (hk : k ≤ 1) : k * (S / 2) ≤ (k + 1) * (S / 2) ∧ (k + 1) * (S / 2) ≤ S := by
  have : k = 0 ∨ k = 1 := by omega
  rcases this with rfl | rfl <;> omega
theorem Hf.le {S k l e last} {f : M} (h : Hf S f k l e last) (hk : k ≤ 1) : k * (S / 2) ≤ e ∧ e ≤ (k + 1) * (S / 2) := ⟨(Ser.last_le h.1).2, Ser.le_en h.1 (half_le S hk).1⟩
theorem Inv.at_ {S : Nat} {f : M} {h e : Int} {q : Nat} {m : MM} (I : Inv S f h e q m) : At S h e := by
  obtain ⟨hd, ⟨h1, -, -⟩ | ⟨k, l, e', n, lo, eo, no, h1, h2, h3, h4, -⟩⟩ := I
  · exact .inl h1
  · exact .inr ⟨k, e', h1, h2, h3, (h4.le h1).2⟩
/-! ### it is opened -/
theorem Ser.len {f : M} {en : Nat} : ∀ {l : List CallT} {a above e last : Nat}, Ser f en l a above e last → a + l.length ≤ e
  | [], a, above, e, last, h => by obtain ⟨rfl, rfl⟩ := h; exact Nat.le_refl _
  | x :: r, a, above, e, last, h => by
    obtain ⟨h1, h2, h3, h4, h5, h6, h7⟩ := h
    have := Ser.len h7
    have hpos := secs_pos (bts_pos above x)
    simp only [List.length_cons]
    omega
theorem load_at {n : Nat} (hn : 40000 < n) {S : Nat} (hS : S ≤ 16384) {c A : Int} {f : M} (hok : ∀ i, i < S → OkS f i) {k : Nat} (hk : k ≤ 1) {l : List CallT} {e last : Nat} (h : Hf S f k l e last) :
    jour_load n (((), (k : Int), ()), (((S : Int), (), (), c, A, false, ()), f, ([] : M), ())) = some (.inl (((((), ()), ((e : Int), ()), ((last : Int), ()), (ErrV.nil, ()), ()), ()), (((S : Int), (), (), c, A, false, ()), f, [], applS [] l, ()))) := by
  obtain ⟨n, rfl⟩ : ∃ k, n = k + 1 := ⟨n - 1, by omega⟩
  have hle := half_le S hk
  have hl := Ser.len h.1
  have hle2 := h.le hk
  have hr := load_run (n := n) (by omega) hS (c := c) (A := A) hok hle.2 l (k * (S / 2)) 0 e last n [] (by omega) hle.1 h.1 h.2
  simp only [jour_load, bounds_at (n := n) (by omega) hS hk]
  rw [show jour_load_l4 n n (((), ((k * (S / 2) : Nat) : Int), (((k + 1) * (S / 2) : Nat) : Int), (), 0, ()), (((S : Int), (), (), c, A, false, ()), f, ([] : M), [], ())) = _ from hr]
theorem calls_at {n : Nat} (hn : 1000 < n) {S : Nat} (hS : S ≤ 16384) {c A : Int} {f : M} {q : Nat} (hd : Dk S f q) (hq : q < 4611686018427387904) (h e : Int) (m : MM) : ∀ d i k v, i + d = S → d < k → v ≤ q → (∀ j, j < i → mfind ki (j : Int) f = none ∨ ∃ (Q j' : Nat) (b : List Int), mfind ki (j : Int) f = some (sect (Q : Int) b j') ∧ 1 ≤ Q ∧ Q ≤ v ∧ j' < secs b.length ∧ secs b.length < 65536) →
    ∃ v', v' ≤ q ∧ Dk S f v' ∧ jour_Open_l14 n k (((), (), (S : Int), (i : Int), ()), (((S : Int), (), (), c, A, false, ()), f, ([] : M), ((), (), h, e, (v : Int), ()), m, ())) = some (.inl (((), ()), (((S : Int), (), (), c, A, false, ()), f, [], ((), (), h, e, ((v' : Nat) : Int), ()), m, ()))) := by
  intro d
  induction d with
  | zero =>
    intro i k v hi hk hv hj
    obtain ⟨k, rfl⟩ : ∃ m, k = m + 1 := ⟨k - 1, by omega⟩
    obtain rfl : i = S := by omega
    refine ⟨v, hv, hj, ?_⟩
    simp only [jour_Open_l14]
    rw [if_neg (by simp)]
  | succ d ih =>
    intro i k v hi hk hv hj
    obtain ⟨k, rfl⟩ : ∃ m, k = m + 1 := ⟨k - 1, by omega⟩
    rcases hd i (by omega) with h1 | ⟨Q, j', b, h1, h2, h3, h4, h5⟩
    · obtain ⟨v', g1, g2, g3⟩ := ih (i + 1) k v (by omega) (by omega) hv (fun j hj2 => by
        rcases Nat.lt_or_ge j i with hlt | hge
        · exact hj j hlt
        · obtain rfl : j = i := by omega
          exact .inl h1)
      refine ⟨v', g1, g2, ?_⟩
      rw [jour_Open_l14, if_pos (decide_eq_true (show (i : Int) < (S : Int) by omega)), readno_at (by omega) (by omega) (by omega) h1]
      simp only []
      rw [if_neg (by decide), if_neg (by decide), w64_up i (by omega)]
      exact g3
    · have hmx : mx (v : Int) (Q : Int) = ((max v Q : Nat) : Int) := by
        unfold mx
        split <;> omega
      obtain ⟨v', g1, g2, g3⟩ := ih (i + 1) k (max v Q) (by omega) (by omega) (by omega) (fun j hj2 => by
        rcases Nat.lt_or_ge j i with hlt | hge
        · rcases hj j hlt with g | ⟨Q', j'', b', g1, g2, g3, g4⟩
          · exact .inl g
          · exact .inr ⟨Q', j'', b', g1, g2, by omega, g4⟩
        · obtain rfl : j = i := by omega
          exact .inr ⟨Q, j', b, h1, h2, by omega, h4, h5⟩)
      refine ⟨v', g1, g2, ?_⟩
      rw [jour_Open_l14, if_pos (decide_eq_true (show (i : Int) < (S : Int) by omega)), read1_at (by omega) (by omega) (by omega) h1 (by omega) (by omega) h5]
      simp only []
      rw [if_neg (by decide), if_pos trivial, w64_up i (by omega), hmx]
      exact g3
/-- The last number stands on the disk. -/
theorem Ser.last_on {S q : Nat} {f : M} (hd : Dk S f q) {en : Nat} (hen : en ≤ S) (hq : q < 4611686018427387904) : ∀ {l : List CallT} {a above e last : Nat}, above ≤ q → Ser f en l a above e last → last ≤ q
  | [], a, above, e, last, ha, h => by obtain ⟨rfl, rfl⟩ := h; exact ha
  | x :: r, a, above, e, last, ha, h => by
    obtain ⟨h1, h2, h3, h4, h5, h6, h7⟩ := h
    have hpos := secs_pos (bts_pos above x)
    refine Ser.last_on hd hen hq ?_ h7
    have h0 := h5 0 hpos
    rcases hd (a + 0) (by omega) with g | ⟨Q, j, b, g1, g2, g3, g4⟩
    · rw [h0] at g; cases g
    · rw [h0] at g1
      injection g1 with g1
      rw [sect_inj h2 (by omega) g1]
      exact g3
theorem open_at {n : Nat} (hn : 60000 < n) {S : Nat} (hS : S ≤ 16384) {c A : Int} {f : M} {q : Nat} (hq : q < 4611686018427387904) {m : MM} (hR : Rest S f q m) :
    ∃ (h e : Int) (q' : Nat) (m' : MM), jour_Open n (((), ()), (((S : Int), (), (), c, A, false, ()), f, ([] : M), ())) = some (.inl (((((), ()), (ErrV.nil, ()), ()), ()), (((S : Int), (), (), c, A, false, ()), f, [], ((), (), h, e, (q' : Int), ()), m', ()))) ∧ Inv S f h e q' m' ∧ q' ≤ q ∧ Sim m m' ∧ (keys m').Nodup := by
  obtain ⟨n, rfl⟩ : ∃ k, n = k + 4 := ⟨n - 4, by omega⟩
  obtain ⟨hd, hR⟩ := hR
  have hok := hd.ok hq
  have fin : ∀ (h e : Int) (m' : MM) (l0 l1 : List CallT) (e0 e1 n0 n1 : Nat), Hf S f 0 l0 e0 n0 → Hf S f 1 l1 e1 n1 → (jour_Open_l4 (n + 3) (n + 3) (((), (), 0, 0, ()), (((S : Int), (), (), c, A, false, ()), f, ([] : M), ((), (), (-1), 0, 0, ()), [], ())) = some (.inl (((), (), ()), (((S : Int), (), (), c, A, false, ()), f, [], ((), (), h, e, 0, ()), m', ())))) → ∃ q' : Nat, jour_Open (n + 4) (((), ()), (((S : Int), (), (), c, A, false, ()), f, ([] : M), ())) = some (.inl (((((), ()), (ErrV.nil, ()), ()), ()), (((S : Int), (), (), c, A, false, ()), f, [], ((), (), h, e, (q' : Int), ()), m', ()))) ∧ q' ≤ q ∧ Dk S f q' := by
    intro h e m' l0 l1 e0 e1 n0 n1 H0 H1 hl4
    obtain ⟨v', g1, g2, g3⟩ := calls_at (n := n + 3) (by omega) hS (c := c) (A := A) hd hq h e m' S 0 (n + 3) 0 (by omega) (by omega) (by omega) (fun j hj => absurd hj (by omega))
    refine ⟨v', ?_, g1, g2⟩
    have e0 : disk_Disk_Sectors (n + 3) (((), ()), (((S : Int), (), (), c, A, false, ()), f, ([] : M), ())) = some (((S : Int), ()), (((S : Int), (), (), c, A, false, ()), f, [], ())) := rfl
    simp only [jour_Open]
    rw [hl4]
    simp only []
    rw [e0]
    simp only []
    rw [show jour_Open_l14 (n + 3) (n + 3) (((), (), (S : Int), 0, ()), (((S : Int), (), (), c, A, false, ()), f, ([] : M), ((), (), h, e, 0, ()), m', ())) = _ from g3]
  have two : ∀ (l0 l1 : List CallT) (e0 e1 n0 n1 : Nat), Hf S f 0 l0 e0 n0 → Hf S f 1 l1 e1 n1 → jour_Open_l4 (n + 3) (n + 3) (((), (), 0, 0, ()), (((S : Int), (), (), c, A, false, ()), f, ([] : M), ((), (), (-1), 0, 0, ()), [], ())) = some (.inl (((), (), ()), (((S : Int), (), (), c, A, false, ()), f, [], ((), (), (if n0 < n1 then 1 else if 0 < n0 then 0 else -1), (if n0 < n1 then (e1 : Int) else if 0 < n0 then (e0 : Int) else 0), 0, ()), (if n0 < n1 then applS [] l1 else if 0 < n0 then applS [] l0 else []), ()))) := by
    intro l0 l1 e0 e1 n0 n1 H0 H1
    have h0 := load_at (n := n + 3) (by omega) hS (c := c) (A := A) hok (k := 0) (by omega) H0
    have h1 := load_at (n := n + 3) (by omega) hS (c := c) (A := A) hok (k := 1) (by omega) H1
    rw [jour_Open_l4, if_pos (by decide), show jour_load (n + 3) (((), 0, ()), (((S : Int), (), (), c, A, false, ()), f, ([] : M), ())) = _ from h0]
    simp only []
    rw [if_neg (by decide), show IntKind.i64.wrap (0 + 1) = 1 from rfl]
    by_cases c0 : 0 < n0
    · rw [if_pos (decide_eq_true (show (n0 : Int) > 0 by omega)), jour_Open_l4, if_pos (by decide), show jour_load (n + 3) (((), 1, ()), (((S : Int), (), (), c, A, false, ()), f, ([] : M), ())) = _ from h1]
      simp only []
      rw [if_neg (by decide), show IntKind.i64.wrap (1 + 1) = 2 from rfl]
      by_cases c1 : n0 < n1
      · rw [if_pos (decide_eq_true (show (n1 : Int) > (n0 : Int) by omega)), jour_Open_l4, if_neg (by decide), if_pos c1, if_pos c1, if_pos c1]
      · rw [if_neg (by simp; omega), jour_Open_l4, if_neg (by decide), if_neg c1, if_neg c1, if_neg c1, if_pos c0, if_pos c0, if_pos c0]
    · obtain rfl : n0 = 0 := by omega
      rw [if_neg (by decide), jour_Open_l4, if_pos (by decide), show jour_load (n + 3) (((), 1, ()), (((S : Int), (), (), c, A, false, ()), f, ([] : M), ())) = _ from h1]
      simp only []
      rw [if_neg (by decide), show IntKind.i64.wrap (1 + 1) = 2 from rfl]
      by_cases c1 : 0 < n1
      · rw [if_pos (decide_eq_true (show (n1 : Int) > 0 by omega)), jour_Open_l4, if_neg (by decide), if_pos c1, if_pos c1, if_pos c1]
      · rw [if_neg (by simp; omega), jour_Open_l4, if_neg (by decide), if_neg c1, if_neg c1, if_neg c1, if_neg c0, if_neg c0, if_neg c0]
  rcases hR with ⟨h1, l0, e0, l1, e1, H0, H1⟩ | ⟨k, l, e, n', lo, eo, no, h1, H, Ho, hlt, hnq, hs⟩
  · obtain ⟨q', g1, g2, g3⟩ := fin _ _ _ l0 l1 e0 e1 0 0 H0 H1 (two l0 l1 e0 e1 0 0 H0 H1)
    exact ⟨-1, 0, q', [], g1, ⟨g3, .inl ⟨rfl, fun s => rfl, l0, e0, l1, e1, H0, H1⟩⟩, g2, h1, .nil⟩
  · have hk : k = 0 ∨ k = 1 := by omega
    rcases hk with rfl | rfl
    · obtain ⟨q', g1, g2, g3⟩ := fin _ _ _ l lo e eo n' no H Ho (two l lo e eo n' no H Ho)
      have c1 : ¬ n' < no := by omega
      have c2 : 0 < n' := by omega
      rw [if_neg c1, if_neg c1, if_neg c1, if_pos c2, if_pos c2, if_pos c2] at g1
      exact ⟨0, e, q', applS [] l, g1, ⟨g3, .inr ⟨0, l, e, n', lo, eo, no, by omega, rfl, rfl, H, Ho, hlt, Ser.last_on g3 (half_le S (by omega)).2 (by omega) (by omega) H.1, fun s => rfl⟩⟩, g2, hs, applS_nodup l .nil⟩
    · obtain ⟨q', g1, g2, g3⟩ := fin _ _ _ lo l eo e no n' Ho H (two lo l eo e no n' Ho H)
      rw [if_pos hlt, if_pos hlt, if_pos hlt] at g1
      exact ⟨1, e, q', applS [] l, g1, ⟨g3, .inr ⟨1, l, e, n', lo, eo, no, by omega, rfl, rfl, H, Ho, hlt, Ser.last_on g3 (half_le S (by omega)).2 (by omega) (by omega) H.1, fun s => rfl⟩⟩, g2, hs, applS_nodup l .nil⟩
theorem strEq_true {x y : ByteArray} : (strEq x y = true) ↔ x = y := by rw [strEq_iff]; simp
theorem equalM_sim {a b : MM} (ha : (keys a).Nodup) (hb : (keys b).Nodup) (h : equalM a b = true) : Sim a b := by
  unfold equalM at h
  rw [Bool.and_eq_true, List.all_eq_true] at h
  have hl : a.length = b.length := of_decide_eq_true h.1
  have sub : ∀ x ∈ keys a, x ∈ keys b := fun x hx => by
    obtain ⟨p, hp, rfl⟩ := List.mem_map.1 hx
    have := h.2 p hp
    rw [← mfind_in]
    split at this
    · rename_i v e
      rw [e]
      rfl
    · cases this
  have sup : ∀ x ∈ keys b, x ∈ keys a := fun x hx => by
    refine Classical.byContradiction fun hn => ?_
    have := nodup_len (l := x :: keys a) (m := keys b) (List.nodup_cons.2 ⟨hn, ha⟩) (fun y hy => by
      rcases List.mem_cons.1 hy with rfl | hy
      · exact hx
      · exact sub y hy)
    simp only [List.length_cons, keys, List.length_map] at this
    omega
  intro s
  by_cases hs : s ∈ keys a
  · obtain ⟨p, hp, rfl⟩ := List.mem_map.1 hs
    have h1 := h.2 p hp
    rw [mem_mfind ha hp]
    split at h1
    · rename_i v e
      rw [show mfind ks p.1 b = some v from e, strEq_true.1 h1]
    · cases h1
  · rw [show mfind ks s a = none from mfind_out hs, show mfind ks s b = none from mfind_out (fun e => hs (sup s e))]
end Go.Proofs.YtodiddgpdmigcaaGreatDoor.Pure

namespace Go.Proofs.YtodiddgpdmigcaaGreatDoor.Pure
open Go Go.Lib Go.Proofs.YtodiddgpdmigcaaGreatDoor.Cm
open Classical
set_option linter.unusedVariables false
set_option linter.unusedSimpArgs false
set_option maxRecDepth 100000
/-- The other half is as it was. -/
theorem Hf.other {S q : Nat} {f f' : M} (hd : Dk S f' q) (hq : q < 4611686018427387904) {k : Nat} (hk : k ≤ 1) {p Q : Nat} {b : List Int} {W : Nat → Prop} (o : Over f f' p Q b W) (hp : (k + 1) * (S / 2) ≤ p ∨ p + secs b.length ≤ k * (S / 2)) {l : List CallT} {e last : Nat} (H : Hf S f k l e last) : Hf S f' k l e last := by
  have hle := half_le S hk
  have h2 := H.le hk
  have hs : ∀ x : Nat, k * (S / 2) ≤ x → x < (k + 1) * (S / 2) → mfind ki (x : Int) f' = mfind ki (x : Int) f := fun x h1 h2 => o.off x (fun i h3 _ h4 => by omega)
  exact ⟨Ser.same H.1 (fun x h3 h4 => hs x h3 (by omega)), stop_same hd hq hle.2 h2 H.2 hs⟩
/-- A call behind the last one, whole. -/
theorem Hf.app {S q : Nat} {f f' : M} (hd : Dk S f' (q + 1)) (hq : q + 1 < 4611686018427387904) {k : Nat} (hk : k ≤ 1) {l : List CallT} {e last : Nat} (H : Hf S f k l e last) (hl : last ≤ q) {ch : List ChT} (h3 : ch.length ≤ 1000) (h4 : ∀ c ∈ ch, c.1.size ≤ 40 ∧ c.2.1.size ≤ 32768) (o : Over f f' e (q + 1) (bts last (q + 1, ch)) (fun _ => True)) (hr : e + secs (bts last (q + 1, ch)).length ≤ (k + 1) * (S / 2)) : Hf S f' k (l ++ [(q + 1, ch)]) (e + secs (bts last (q + 1, ch)).length) (q + 1) := by
  have hle := half_le S hk
  have h2 := H.le hk
  refine ⟨Ser.append (Ser.same H.1 (fun x h3 h4 => o.off x (fun i h5 _ h6 => by omega))) ⟨by show last < q + 1; omega, hq, h3, h4, fun j hj => o.on j hj trivial, hr, rfl, rfl⟩, stop_top hd hq (by omega)⟩
/-- A call at a half's beginning, whole. -/
theorem Hf.new {S q : Nat} {f' f : M} (hd : Dk S f' (q + 1)) (hq : q + 1 < 4611686018427387904) {k : Nat} (hk : k ≤ 1) {ch : List ChT} (h3 : ch.length ≤ 1000) (h4 : ∀ c ∈ ch, c.1.size ≤ 40 ∧ c.2.1.size ≤ 32768) (o : Over f f' (k * (S / 2)) (q + 1) (by_ 0 ch) (fun _ => True)) (hr : secs (by_ 0 ch).length ≤ S / 2) : Hf S f' k [(q + 1, ch)] (k * (S / 2) + secs (by_ 0 ch).length) (q + 1) := by
  have hle := half_le S hk
  have hk2 : k = 0 ∨ k = 1 := by omega
  have hr2 : k * (S / 2) + secs (by_ 0 ch).length ≤ (k + 1) * (S / 2) := by rcases hk2 with rfl | rfl <;> omega
  exact ⟨⟨by show 0 < q + 1; omega, hq, h3, h4, fun j hj => o.on j hj trivial, hr2, rfl, rfl⟩, stop_top hd hq (by omega)⟩
/-- What a call is: changes behind the last one, or all records at the other half's beginning. -/
inductive CallAt (S : Nat) (h e : Int) (m m' : MM) : Nat → List Int → Int → Int → Prop
  | app (l : List ChT) (h0 : 0 ≤ h) (hr : e + (secs (by_ 1 l).length : Int) ≤ (h + 1) * ((S / 2 : Nat) : Int)) (h3 : l.length ≤ 1000) (h4 : ∀ c ∈ l, c.1.size ≤ 40 ∧ c.2.1.size ≤ 32768) (hm : m' = appl m l) : CallAt S h e m m' e.toNat (by_ 1 l) h (e + (secs (by_ 1 l).length : Int))
  | new (hr : secs (by_ 0 (dump m')).length ≤ S / 2) : CallAt S h e m m' (nextH h * (S / 2)) (by_ 0 (dump m')) (nextH h : Int) ((nextH h * (S / 2) + secs (by_ 0 (dump m')).length : Nat) : Int)
theorem call_plan {S : Nat} {h e : Int} {m : MM} {l : List ChT} (hl : l.length ≤ 1000) (hb : bad m l = none) {r : Nat × List Int × Int × Int} (hp : plan S h e m l = some r) : CallAt S h e m (appl m l) r.1 r.2.1 r.2.2.1 r.2.2.2 := by
  unfold plan at hp
  split at hp
  · rename_i hc
    cases hp
    exact .app l hc.1 hc.2 hl (fun c hc => ((bad_none hb).1 c hc).2) rfl
  · unfold planA at hp
    split at hp
    · rename_i hc
      cases hp
      exact .new hc
    · cases hp
theorem call_planA {S : Nat} {h e : Int} {m : MM} {r : Nat × List Int × Int × Int} (hp : planA S h m = some r) : CallAt S h e m m r.1 r.2.1 r.2.2.1 r.2.2.2 := by
  unfold planA at hp
  split at hp
  · rename_i hc
    cases hp
    exact .new hc
  · cases hp
theorem secs_16 {S p : Nat} (hS : S ≤ 16384) {b : List Int} (h : p + secs b.length ≤ S) : secs b.length < 65536 := by omega
/-- A whole call. -/
theorem Inv.step {S : Nat} (hS : S ≤ 16384) {f f' : M} {h e : Int} {q : Nat} (hq : q + 1 < 4611686018427387904) {m m' : MM} (hm : MW m) (hm' : MW m') (I : Inv S f h e q m) {p : Nat} {b : List Int} {h' e' : Int} (C : CallAt S h e m m' p b h' e') (o : Over f f' p (q + 1) b (fun _ => True)) : Inv S f' h' e' (q + 1) m' := by
  obtain ⟨hd, I⟩ := I
  cases C with
  | app l h0 hr h3 h4 hm2 =>
    rcases I with ⟨rfl, -, -⟩ | ⟨k, ll, e1, n, lo, eo, no, k1, rfl, rfl, H, Ho, hlt, hnq, hs⟩
    · exact absurd h0 (by decide)
    have hk2 : k = 0 ∨ k = 1 := by omega
    have hle := half_le S k1
    have h2 := H.le k1
    have hr' : e1 + secs (by_ 1 l).length ≤ (k + 1) * (S / 2) := by rcases hk2 with rfl | rfl <;> omega
    have hd' := hd.over o (secs_16 hS (p := e1) (by omega))
    have hkind : by_ 1 l = bts n (q + 1, l) := by
      unfold bts kindOf
      rw [if_neg (by omega)]
    rw [Int.toNat_natCast] at o
    have Ho' := Hf.other hd' hq (k := 1 - k) (by omega) o (by rcases hk2 with rfl | rfl <;> omega) Ho
    rw [hkind] at o hr' ⊢
    have H' := Hf.app hd' hq k1 H hnq h3 h4 o hr'
    refine ⟨hd', .inr ⟨k, _, _, _, lo, eo, no, k1, rfl, by omega, H', Ho', by omega, Nat.le_refl _, ?_⟩⟩
    rw [applS_append, hm2]
    exact hs.appl l hm.2.2 (applS_nodup ll .nil)
  | new hr =>
    have hnm : nextH h = 0 ∨ nextH h = 1 := by unfold nextH; split <;> omega
    have k1 : nextH h ≤ 1 := by omega
    have hle := half_le S k1
    have hr' : nextH h * (S / 2) + secs (by_ 0 (dump m')).length ≤ (nextH h + 1) * (S / 2) := by rcases hnm with e0 | e0 <;> rw [e0] <;> omega
    have hd' := hd.over o (secs_16 hS (p := nextH h * (S / 2)) (by omega))
    have H' := Hf.new hd' hq k1 (by rw [dump_len]; have := hm'.1; omega) (dump_ok hm'.mi) o hr
    have hoth : ∃ lo eo no, Hf S f (1 - nextH h) lo eo no ∧ no ≤ q := by
      rcases I with ⟨rfl, -, l0, e0, l1, e1, H0, H1⟩ | ⟨k, ll, e1, n, lo, eo, no, k2, rfl, rfl, H, Ho, hlt, hnq, hs⟩
      · exact ⟨l1, e1, 0, H1, by omega⟩
      · have hk2 : k = 0 ∨ k = 1 := by omega
        rcases hk2 with rfl | rfl
        · exact ⟨ll, e1, n, H, hnq⟩
        · exact ⟨ll, e1, n, H, hnq⟩
    obtain ⟨lo, eo, no, Ho, hno⟩ := hoth
    have Ho' := Hf.other hd' hq (k := 1 - nextH h) (by omega) o (by rcases hnm with e0 | e0 <;> rw [e0] <;> rw [e0] at hr' <;> omega) Ho
    refine ⟨hd', .inr ⟨nextH h, _, _, _, lo, eo, no, k1, rfl, rfl, H', Ho', by omega, Nat.le_refl _, ?_⟩⟩
    exact (appl_dump hm'.2.2).symm
/-- A call that is there in part: the records are those ahead of it. -/
theorem Inv.torn {S : Nat} (hS : S ≤ 16384) {f f' : M} {h e : Int} {q : Nat} (hq : q + 1 < 4611686018427387904) {m m' : MM} (I : Inv S f h e q m) {p : Nat} {b : List Int} {h' e' : Int} (C : CallAt S h e m m' p b h' e') {W : Nat → Prop} (o : Over f f' p (q + 1) b W) (hW : ∃ i, i < secs b.length ∧ ¬ W i) : Rest S f' (q + 1) m := by
  obtain ⟨hd, I⟩ := I
  obtain ⟨w, w1, w2⟩ := hW
  cases C with
  | app l h0 hr h3 h4 hm2 =>
    rcases I with ⟨rfl, -, -⟩ | ⟨k, ll, e1, n, lo, eo, no, k1, rfl, rfl, H, Ho, hlt, hnq, hs⟩
    · exact absurd h0 (by decide)
    have hk2 : k = 0 ∨ k = 1 := by omega
    have hle := half_le S k1
    have h2 := H.le k1
    have hr' : e1 + secs (by_ 1 l).length ≤ (k + 1) * (S / 2) := by rcases hk2 with rfl | rfl <;> omega
    have hd' := hd.over o (secs_16 hS (p := e1) (by omega))
    rw [Int.toNat_natCast] at o
    have Ho' := Hf.other hd' hq (k := 1 - k) (by omega) o (by rcases hk2 with rfl | rfl <;> omega) Ho
    have H' : Hf S f' k ll e1 n := ⟨Ser.same H.1 (fun x h3 h4 => o.off x (fun i h5 _ h6 => by omega)), stop_over hd hq o (secs_16 hS (p := e1) (by omega)) hle.2 H.2 (fun _ hw0 _ => ⟨w, by
      rcases Nat.eq_zero_or_pos w with rfl | hp
      · exact absurd hw0 w2
      · exact hp, w1, w2, by omega⟩)⟩
    exact ⟨hd', .inr ⟨k, ll, e1, n, lo, eo, no, k1, H', Ho', hlt, by omega, hs⟩⟩
  | new hr =>
    have hnm : nextH h = 0 ∨ nextH h = 1 := by unfold nextH; split <;> omega
    have k1 : nextH h ≤ 1 := by omega
    have hle := half_le S k1
    have hr' : nextH h * (S / 2) + secs (by_ 0 (dump m')).length ≤ (nextH h + 1) * (S / 2) := by rcases hnm with e0 | e0 <;> rw [e0] <;> omega
    have hsb := secs_16 hS (p := nextH h * (S / 2)) (b := by_ 0 (dump m')) (by omega)
    have hd' := hd.over o hsb
    have tn : ∀ {l : List CallT} {e last : Nat}, last ≤ q → Hf S f (nextH h) l e last → ∃ l' e' last', Hf S f' (nextH h) l' e' last' ∧ last' ≤ last := fun hl H => by
      obtain ⟨l', e', last', g1, g2, g3⟩ := Ser.torn hd hq o hsb hle.2 (by omega) (fun hw0 _ => ⟨w, by
        rcases Nat.eq_zero_or_pos w with rfl | hp
        · exact absurd hw0 w2
        · exact hp, w1, w2, by omega⟩) hle.1 hl H.1 H.2
      exact ⟨l', e', last', ⟨g1, g2⟩, g3⟩
    rcases I with ⟨rfl, hs, l0, e0, l1, e1, H0, H1⟩ | ⟨k, ll, e1, n, lo, eo, no, k2, rfl, rfl, H, Ho, hlt, hnq, hs⟩
    · obtain ⟨l', e', last', g1, g2⟩ := tn (by omega) (show Hf S f (nextH (-1)) l0 e0 0 from H0)
      obtain rfl : last' = 0 := by omega
      exact ⟨hd', .inl ⟨hs, l', e', l1, e1, g1, Hf.other hd' hq (k := 1) (by omega) o (by rw [show nextH (-1) = 0 from rfl] at hr' ⊢; omega) H1⟩⟩
    · have hk2 : k = 0 ∨ k = 1 := by omega
      rcases hk2 with rfl | rfl
      · obtain ⟨l', e', last', g1, g2⟩ := tn (by omega) (show Hf S f (nextH ((0 : Nat) : Int)) lo eo no from Ho)
        have H' := Hf.other hd' hq (k := 0) (by omega) o (by rw [show nextH ((0 : Nat) : Int) = 1 from rfl] at hr' ⊢; omega) H
        exact ⟨hd', .inr ⟨0, ll, e1, n, l', e', last', by omega, H', g1, by omega, by omega, hs⟩⟩
      · obtain ⟨l', e', last', g1, g2⟩ := tn (by omega) (show Hf S f (nextH ((1 : Nat) : Int)) lo eo no from Ho)
        have H' := Hf.other hd' hq (k := 1) (by omega) o (by rw [show nextH ((1 : Nat) : Int) = 0 from rfl] at hr' ⊢; omega) H
        exact ⟨hd', .inr ⟨1, ll, e1, n, l', e', last', by omega, H', g1, by omega, by omega, hs⟩⟩
/-- What a flush leaves. -/
theorem over_wr (f : M) (p Q : Nat) (b : List Int) : Over f (mergeM f (wp p (Q : Int) b (secs b.length))) p Q b (fun _ => True) := by
  refine ⟨fun i hi _ => ?_, fun x hx => ?_⟩
  · rw [mfind_merge, mfind_wp, if_pos (by omega), show p + i - p = i by omega]
    rfl
  · rw [mfind_merge, mfind_wp]
    by_cases h : p ≤ x ∧ x < p + secs b.length
    · exact absurd (show x = p + (x - p) by omega) (hx (x - p) (by omega) trivial)
    · rw [if_neg h]
      rfl
theorem Fl.wr {S : Int} {f : M} {L : Nat} (h : Fl S f L) {p : Nat} {q : Int} {b : List Int} (hr : ((p + secs b.length : Nat) : Int) ≤ S) : Fl S (mergeM f (wp p q b (secs b.length))) (L + secs b.length) := by
  refine ⟨fun x hx => ?_, ?_⟩
  · rcases merge_keys hx with hx | hx
    · exact h.k x hx
    · have := wp_keys p q b _ x hx
      omega
  · have h1 := merge_len f (wp p q b (secs b.length))
    have h2 := h.len
    have h3 := wp_len p q b (secs b.length)
    omega
theorem opened_inv {S : Nat} : Inv S [] (-1) 0 0 [] := by
  refine ⟨fun i hi => .inl rfl, .inl ⟨rfl, fun s => rfl, [], 0 * (S / 2), [], 1 * (S / 2), ⟨⟨rfl, rfl⟩, ?_⟩, ⟨⟨rfl, rfl⟩, ?_⟩⟩⟩
  · rcases Nat.lt_or_ge (0 * (S / 2)) S with h | h
    · exact .inr ⟨h, .inl rfl⟩
    · exact .inl (by omega)
  · rcases Nat.lt_or_ge (1 * (S / 2)) S with h | h
    · exact .inr ⟨h, .inl rfl⟩
    · exact .inl (by omega)
end Go.Proofs.YtodiddgpdmigcaaGreatDoor.Pure

namespace Go.Proofs.YtodiddgpdmigcaaGreatDoor.Pure
open Go Go.Lib Go.Proofs.YtodiddgpdmigcaaGreatDoor.Cm
open Classical
set_option linter.unusedVariables false
set_option linter.unusedSimpArgs false
set_option maxRecDepth 100000
theorem CallAt.size {S : Nat} {h e : Int} {m m' : MM} (hm : MW m') {p : Nat} {b : List Int} {h' e' : Int} (C : CallAt S h e m m' p b h' e') : b.length < 1000000000 := by
  cases C with
  | app l h0 hr h3 h4 hm2 => exact by_size h3 h4 1
  | new hr => exact by_size (by rw [dump_len]; have := hm.1; omega) (dump_ok hm.mi) 0
/-- A call's writing, whole. -/
theorem write_done {n : Nat} (hn : 20000 < n) {S : Nat} (hS : S ≤ 16384) {c : Int} (hc : 0 ≤ c ∧ c < 100000000) {h e : Int} {q : Nat} (hq : q < 1000000) {m m' : MM} (hm : MW m) (hm' : MW m') {f : M} {L : Nat} (hf : Fl S f L) (hL : L ≤ 450000) (I : Inv S f h e q m) {p : Nat} {b : List Int} {h' e' : Int} (C : CallAt S h e m m' p b h' e') (hr : p + secs b.length ≤ S) (m0 : MM) :
    ∃ f', jour_Store_write n (((), (p : Int), b, ()), (((), (), h, e, (q : Int), ()), ((S : Int), (), (), c, 0, false, ()), m0, f, [], ())) = some ((ErrV.nil, ()), (((), (), h, e, ((q + 1 : Nat) : Int), ()), ((S : Int), (), (), c + (secs b.length : Int) + 1, 0, false, ()), m0, f', [], ())) ∧ Inv S f' h' e' (q + 1) m' ∧ Fl S f' (L + S) := by
  refine ⟨mergeM f (wp p ((q + 1 : Nat) : Int) b (secs b.length)), ?_, I.step hS (by omega) hm hm' C (over_wr f p (q + 1) b), ?_⟩
  · have := write_at hn (S := (S : Int)) (by omega) (at_ := p) b (C.size hm') (by omega) hc (q := (q : Int)) (by omega) h e m0 hf (by omega) (A := 0) (by omega) (.inl rfl)
    rw [show 0 - (secs b.length + 1) = 0 by omega] at this
    exact this
  · have := hf.wr (p := p) (q := ((q + 1 : Nat) : Int)) (b := b) (by omega)
    exact ⟨this.k, by have := this.len; omega⟩
/-- A Commit that changes something. -/
theorem commit_done {n : Nat} (hn : 60000 < n) {S : Nat} (hS : S ≤ 16384) {c : Int} (hc : 0 ≤ c ∧ c < 100000000) {h e : Int} {q : Nat} (hq : q < 1000000) {m : MM} (hm : MW m) {f : M} {L : Nat} (hf : Fl S f L) (hL : L ≤ 450000) (I : Inv S f h e q m) {l : List ChT} (hl : l.length ≤ 1000) (hb : bad m l = none) (he : equalM (appl m l) m = false) :
    (plan S h e m l = none ∧ jour_Store_Commit n (((), l, ()), (((), (), h, e, (q : Int), ()), ((S : Int), (), (), c, 0, false, ()), m, f, [], ())) = some (.inl ((ErrV.sent 118, ()), (((), (), h, e, (q : Int), ()), ((S : Int), (), (), c, 0, false, ()), m, f, [], ())))) ∨
    (∃ (h' e' c' : Int) (f' : M), jour_Store_Commit n (((), l, ()), (((), (), h, e, (q : Int), ()), ((S : Int), (), (), c, 0, false, ()), m, f, [], ())) = some (.inr (((ErrV.nil, ()), (((), (), h', e', ((q + 1 : Nat) : Int), ()), ((S : Int), (), (), c', 0, false, ()), m, f', [], appl m l, ())))) ∧ Inv S f' h' e' (q + 1) (appl m l) ∧ Fl S f' (L + S) ∧ c ≤ c' ∧ c' ≤ c + S + 1) := by
  cases hp : plan S h e m l with
  | none =>
    have := commit_via (n := n) (by omega) hS (c := c) (A := 0) (q := (q : Int)) I.at_ hm.mi (f := f) (p := []) hl hb he (er := ErrV.nil) (q2 := 0) (c2 := 0) (A2 := 0) (dn2 := false) (f2 := []) (p2 := []) (fun r n' h1 => by rw [hp] at h1; cases h1)
    rw [hp] at this
    exact .inl ⟨rfl, this⟩
  | some r =>
    have hroom := (plan_room I.at_ hp).1
    have hC := call_plan hl hb hp
    have hW := fun n' (h2 : 40000 < n') => write_done (n := n') (by omega) hS hc hq hm (hm.appl hb) hf hL I hC hroom m
    obtain ⟨f', -, g2, g3⟩ := hW 50000 (by omega)
    have hW2 : ∀ n', 40000 < n' → jour_Store_write n' (((), (r.1 : Int), r.2.1, ()), (((), (), h, e, (q : Int), ()), ((S : Int), (), (), c, 0, false, ()), m, f, [], ())) = some ((ErrV.nil, ()), (((), (), h, e, ((q + 1 : Nat) : Int), ()), ((S : Int), (), (), c + (secs r.2.1.length : Int) + 1, 0, false, ()), m, mergeM f (wp r.1 ((q + 1 : Nat) : Int) r.2.1 (secs r.2.1.length)), [], ())) := fun n' h2 => by
      have := write_at (n := n') (by omega) (S := (S : Int)) (by omega) (at_ := r.1) r.2.1 (hC.size (hm.appl hb)) (by omega) hc (q := (q : Int)) (by omega) h e m hf (by omega) (A := 0) (by omega) (.inl rfl)
      rw [show 0 - (secs r.2.1.length + 1) = 0 by omega] at this
      exact this
    have := commit_via (n := n) (by omega) hS (c := c) (A := 0) (q := (q : Int)) I.at_ hm.mi (f := f) (p := []) hl hb he (er := ErrV.nil) (fun r' n' h1 h2 => by
      rw [hp] at h1
      cases h1
      exact hW2 n' h2)
    rw [hp] at this
    refine .inr ⟨_, _, _, _, this, I.step hS (by omega) hm (hm.appl hb) hC (over_wr f r.1 (q + 1) r.2.1), ?_, by omega, by omega⟩
    have := hf.wr (p := r.1) (q := ((q + 1 : Nat) : Int)) (b := r.2.1) (by omega)
    exact ⟨this.k, by have := this.len; omega⟩
end Go.Proofs.YtodiddgpdmigcaaGreatDoor.Pure

namespace Go.Proofs.YtodiddgpdmigcaaGreatDoor.Pure
open Go Go.Lib Go.Proofs.YtodiddgpdmigcaaGreatDoor.Cm
open Classical
set_option linter.unusedVariables false
set_option linter.unusedSimpArgs false
set_option maxRecDepth 100000
/-- Values of so many bytes. -/
def VL (long : Nat) (m : MM) : Prop := ∀ p ∈ m, p.2.size ≤ long
theorem VL.appl {long : Nat} {m : MM} (h : VL long m) {l : List ChT} (hl : ∀ c ∈ l, c.2.1.size ≤ long) : VL long (appl m l) := fun p hp => by
  rcases appl_mem hp with hp | ⟨c, hc, rfl⟩
  · exact h p hp
  · exact hl c hc
theorem VL.sim {long : Nat} {a b : MM} (h : VL long a) (hb : (keys b).Nodup) (hs : Sim a b) : VL long b := fun p hp => by
  have := mem_mfind hb hp
  rw [← hs] at this
  exact h _ (mfind_mem this)
theorem chE_len2 {c : ChT} {v : Nat} (h1 : c.1.size ≤ 40) (h2 : c.2.1.size ≤ v) : (chE c).length ≤ 70 + v := by
  obtain ⟨c1, c2, c3⟩ := c
  have a := txt_len c1
  have b := txt_len c2
  have d0 := (enc_len 0).2
  have d1 := (enc_len 1).2
  simp only at h1 h2
  cases c3 with
  | true =>
    show ((txt c1 ++ enc 1) ++ []).length ≤ _
    simp only [List.length_append, List.length_nil]
    omega
  | false =>
    show ((txt c1 ++ enc 0) ++ txt c2).length ≤ _
    simp only [List.length_append]
    omega
/-- All records need so many sectors. -/
theorem dump_small {m : MM} (hm : MW m) {long : Nat} (h : VL long m) : (by_ 0 (dump m)).length ≤ 20 + (70 + long) * 256 := by
  have h1 := (enc_len 0).2
  have h2 := (enc_len ((dump m).length : Int)).2
  have h3 := flat_len chE (70 + long) (dump m) (fun c hc => by
    refine chE_len2 (dump_ok hm.mi c hc).1 ?_
    unfold dump at hc
    obtain ⟨k, hk, rfl⟩ := List.mem_map.1 hc
    show (getM m k).size ≤ _
    unfold getM
    cases e : mfind ks k m with
    | none => exact Nat.zero_le _
    | some v => exact h _ (mfind_mem e))
  have h4 : (dump m).length ≤ 256 := by rw [dump_len]; exact hm.1
  have h5 : (70 + long) * (dump m).length ≤ (70 + long) * 256 := Nat.mul_le_mul_left _ h4
  simp only [by_, List.length_append]
  omega
end Go.Proofs.YtodiddgpdmigcaaGreatDoor.Pure

namespace Go.Proofs.YtodiddgpdmigcaaGreatDoor.Pure
open Go Go.Lib Go.Proofs.YtodiddgpdmigcaaGreatDoor.Cm
open Classical
set_option linter.unusedVariables false
set_option linter.unusedSimpArgs false
set_option maxRecDepth 100000
theorem first_at {n : Nat} (hn : 200 ≤ n) : law4_first n ((), ()) = some ((true, ()), ()) := by
  obtain ⟨n, rfl⟩ : ∃ m, n = m + 120 := ⟨n - 120, by omega⟩
  kernel_rfl
theorem opened_at {n : Nat} {S : Nat} (hS : 1 ≤ S ∧ S ≤ 16384) (hn : 70000 < n) : ∃ (h e : Int) (q : Nat) (m : MM), law4_opened n (((S : Int), ()), ()) = some (.inl (((((), ()), ((), ()), ()), ()), (((), (), h, e, (q : Int), ()), ((S : Int), (), (), 0, 0, false, ()), m, [], [], ()))) ∧ Inv S [] h e q m ∧ q ≤ 0 ∧ Sim [] m ∧ (keys m).Nodup := by
  obtain ⟨n, rfl⟩ : ∃ k, n = k + 2 := ⟨n - 2, by omega⟩
  have hN : disk_New (n + 1) (((S : Int), ()), ()) = some (.inl (((((), ()), (ErrV.nil, ()), ()), ()), (((S : Int), (), (), 0, 0, false, ()), ([] : M), ([] : M), ()))) := by
    simp only [disk_New]
    rw [if_neg (by simp; omega), if_neg (by simp; omega)]
  obtain ⟨h, e, q, m, g1, g2, g3, g4, g5⟩ := open_at (n := n + 1) (by omega) hS.2 (c := 0) (A := 0) (q := 0) (by omega) (opened_inv (S := S)).rest
  refine ⟨h, e, q, m, ?_, g2, g3, g4, g5⟩
  simp only [law4_opened, hN]
  rw [if_neg (by decide), g1]
  simp only []
  rw [if_neg (by decide)]
end Go.Proofs.YtodiddgpdmigcaaGreatDoor.Pure

namespace Go.Proofs.YtodiddgpdmigcaaGreatDoor.Pure
open Go Go.Lib Go.Proofs.YtodiddgpdmigcaaGreatDoor.Cm
open Classical
set_option linter.unusedVariables false
set_option linter.unusedSimpArgs false
set_option maxRecDepth 100000
theorem Number_at {n : Nat} (hn : 1 ≤ n) (x : Int) {m : Int} (hm : 0 < m) (hm2 : m < 1000000000) : world_Number n ((x, m, ()), ()) = some ((num x m, ()), ()) := by
  obtain ⟨n, rfl⟩ : ∃ m, n = m + 1 := ⟨n - 1, by omega⟩
  have := tmod_b x m hm
  simp only [world_Number]
  rw [if_neg (show ¬ (m = 0) by omega)]
  unfold num
  by_cases h : Int.tmod x m < 0
  · rw [if_pos (decide_eq_true h), if_pos h, w64_id (by omega) (by omega)]
  · rw [if_neg (by simpa using h), if_neg h]
theorem WNum_at {n : Nat} (hn : 1 ≤ n) {x : Int} (h0 : 0 ≤ x) (h1 : x ≤ 1000000) : world_Num n ((x, ()), ()) = some ((itoaS x, ()), ()) := by
  obtain ⟨n, rfl⟩ : ∃ m, n = m + 1 := ⟨n - 1, by omega⟩
  have e : strconv_Itoa n ((x, ()), ()) = some ((itoaS x, ()), ()) := by
    show itoaSem _ = _
    unfold itoaSem
    rw [if_pos (show -9223372036854775808 ≤ x ∧ x ≤ 9223372036854775807 from ⟨by omega, by omega⟩)]
  simp only [world_Num, e]
theorem rows400 : (List.range 400).all (fun i => decide ((itoaS (i : Int)).size ≤ 200)) = true := by kernel_rfl
theorem it3 {k : Nat} (hk : k < 400) : (itoaS (k : Int)).size ≤ 200 := by simpa using all_range rows400 hk
theorem str_size (l : List Int) : (strOfNums l).size = l.length := by
  unfold strOfNums
  show (List.toArray _).size = _
  simp
def kA : ByteArray := ⟨#[97]⟩
def kN : ByteArray := ⟨#[110]⟩
/-- Between two commits. -/
structure Gs (m : MM) (h e c : Int) (q : Nat) (f : M) (i : Nat) : Prop where
  inv : Inv 120 f h e q m
  mw : MW m
  vl : VL 200 m
  ky : ∀ s ∈ keys m, s = kA ∨ s = kN
  at_ : mfind ks kN m = if i = 0 then none else some (itoaS ((i - 1 : Nat) : Int))
  fl : Fl 120 f (i * 120)
  c0 : 0 ≤ c
  c1 : c ≤ i * 121
  q1 : q ≤ i
theorem ky_len {m : MM} (hn : (keys m).Nodup) (h : ∀ s ∈ keys m, s = kA ∨ s = kN) : m.length ≤ 2 := by
  have := nodup_len (l := keys m) (m := [kA, kN]) hn (fun x hx => by
    rcases h x hx with rfl | rfl
    · exact .head _
    · exact .tail _ (.head _))
  simpa [keys] using this
theorem ky_set {m : MM} (h : ∀ s ∈ keys m, s = kA ∨ s = kN) {k : ByteArray} (hk : k = kA ∨ k = kN) (v : ByteArray) : ∀ s ∈ keys (apC m (k, v, false)), s = kA ∨ s = kN := by
  intro s hs
  have hs : s ∈ keys (mset ks k v m) := hs
  rw [mset_keys2] at hs
  split at hs
  · exact h s hs
  · rcases List.mem_append.1 hs with hs | hs
    · exact h s hs
    · rw [List.mem_singleton] at hs
      rw [hs]
      exact hk
theorem small2 {m : MM} (hm : MW m) (h : VL 200 m) (hl : m.length ≤ 2) : secs (by_ 0 (dump m)).length ≤ 60 := by
  have h1 := (enc_len 0).2
  have h2 := (enc_len ((dump m).length : Int)).2
  have h3 := flat_len chE (70 + 200) (dump m) (fun c hc => by
    refine chE_len2 (dump_ok hm.mi c hc).1 ?_
    unfold dump at hc
    obtain ⟨k, hk, rfl⟩ := List.mem_map.1 hc
    show (getM m k).size ≤ _
    unfold getM
    cases e : mfind ks k m with
    | none => exact Nat.zero_le _
    | some v => exact h _ (mfind_mem e))
  have h4 : (dump m).length ≤ 2 := by rw [dump_len]; exact hl
  have h5 : (70 + 200) * (dump m).length ≤ (70 + 200) * 2 := Nat.mul_le_mul_left _ h4
  unfold secs
  simp only [by_, List.length_append]
  omega
theorem commit_step {n : Nat} (hn : 60000 < n) {m : MM} {h e c : Int} {q : Nat} {f : M} {i : Nat} (hi : i < 400) (P : Gs m h e c q f i) {v : ByteArray} (hv : v.size ≤ 200) :
    ∃ (m' : MM) (h' e' c' : Int) (q' : Nat) (f' : M), Gs m' h' e' c' q' f' (i + 1) ∧
      (jour_Store_Commit n (((), [(kA, v, false), (kN, itoaS (i : Int), false)], ()), (((), (), h, e, (q : Int), ()), (((120 : Nat) : Int), (), (), c, 0, false, ()), m, f, [], ())) = some (.inl ((ErrV.nil, ()), (((), (), h', e', (q' : Int), ()), (((120 : Nat) : Int), (), (), c', 0, false, ()), m', f', [], ()))) ∨
       jour_Store_Commit n (((), [(kA, v, false), (kN, itoaS (i : Int), false)], ()), (((), (), h, e, (q : Int), ()), (((120 : Nat) : Int), (), (), c, 0, false, ()), m, f, [], ())) = some (.inr (((ErrV.nil, ()), (((), (), h', e', (q' : Int), ()), (((120 : Nat) : Int), (), (), c', 0, false, ()), m, f', [], m', ()))))) := by
  have hq := P.q1
  have hc1 := P.c1
  have hni := it3 hi
  have hk1 : kA.size = 1 := rfl
  have hk2 : kN.size = 1 := rfl
  generalize hnv : itoaS (i : Int) = nv at hni ⊢
  have hky : ∀ s ∈ keys (appl m [(kA, v, false), (kN, nv, false)]), s = kA ∨ s = kN := ky_set (ky_set P.ky (.inl rfl) v) (.inr rfl) nv
  have hnd := appl_nodup P.mw.2.2 [(kA, v, false), (kN, nv, false)]
  have hlen := ky_len hnd hky
  have hb : bad m [(kA, v, false), (kN, nv, false)] = none := by
    have o1 : okK (kA, v, false) = true := rfl
    have o2 : okK (kN, nv, false) = true := rfl
    have o3 : okV (kA, v, false) = true := decide_eq_true (show v.size ≤ 32768 by omega)
    have o4 : okV (kN, nv, false) = true := decide_eq_true (show nv.size ≤ 32768 by omega)
    unfold bad
    rw [if_neg (by simp [o1, o2]), if_neg (by simp [o3, o4]), if_neg (by omega)]
  have hvl : VL 200 (appl m [(kA, v, false), (kN, nv, false)]) := P.vl.appl (fun c hc => by
    rcases List.mem_cons.1 hc with rfl | hc
    · exact hv
    · rw [List.mem_singleton] at hc
      rw [hc]
      exact hni)
  have hat : mfind ks kN (appl m [(kA, v, false), (kN, nv, false)]) = some nv := by
    show mfind ks kN (apC (apC m (kA, v, false)) (kN, nv, false)) = _
    rw [mfind_apC (apC_nodup P.mw.2.2 _), if_pos rfl]
    rfl
  have hat2 : ∀ x : MM, mfind ks kN x = some nv → mfind ks kN x = if i + 1 = 0 then none else some (itoaS ((i + 1 - 1 : Nat) : Int)) := fun x hx => by
    rw [if_neg (by omega), show i + 1 - 1 = i by omega, hnv, hx]
  cases he : equalM (appl m [(kA, v, false), (kN, nv, false)]) m with
  | true =>
    have hs := equalM_sim hnd P.mw.2.2 he
    exact ⟨m, h, e, c, q, f, ⟨P.inv, P.mw, P.vl, P.ky, hat2 m (by rw [← hs]; exact hat), ⟨P.fl.k, by have := P.fl.len; omega⟩, P.c0, by omega, by omega⟩, .inl (commit_same (S := 120) (by omega) P.mw.mi (by simp) hb he)⟩
  | false =>
    rcases commit_done (n := n) hn (S := 120) (by omega) (c := c) ⟨P.c0, by omega⟩ (by omega) P.mw P.fl (by omega) P.inv (l := [(kA, v, false), (kN, nv, false)]) (by simp) hb he with ⟨h1, h2⟩ | ⟨h', e', c', f', g1, g2, g3, g4, g5⟩
    · exfalso
      have hr : secs (by_ 0 (dump (appl m [(kA, v, false), (kN, nv, false)]))).length ≤ 120 / 2 := small2 (P.mw.appl hb) hvl hlen
      unfold plan planA at h1
      rw [if_pos hr] at h1
      split at h1 <;> cases h1
    · exact ⟨_, h', e', c', q + 1, f', ⟨g2, P.mw.appl hb, hvl, hky, hat2 _ hat, ⟨g3.k, by have := g3.len; omega⟩, by have := P.c0; omega, by omega, by omega⟩, .inr g1⟩
theorem used_at {n : Nat} (hn : 10 < n) {m : MM} {h e c : Int} {q : Nat} {f : M} (I : Inv 120 f h e q m) : ∃ u : Int, 0 ≤ u ∧ u ≤ 120 ∧ jour_Store_Used n (((), ()), (((), (), h, e, (q : Int), ()), (((120 : Nat) : Int), (), (), c, 0, false, ()), m, f, [], ())) = some ((u, ()), (((), (), h, e, (q : Int), ()), (((120 : Nat) : Int), (), (), c, 0, false, ()), m, f, [], ())) := by
  obtain ⟨n, rfl⟩ : ∃ k, n = k + 1 := ⟨n - 1, by omega⟩
  obtain ⟨hd, ⟨rfl, -, -⟩ | ⟨k, l, e', n', lo, eo, no, h1, rfl, rfl, H, -⟩⟩ := I
  · exact ⟨0, by omega, by omega, rfl⟩
  · have hle := H.le h1
    have hh := half_le 120 h1
    refine ⟨(e' : Int) - ((k * (120 / 2) : Nat) : Int), by omega, by omega, ?_⟩
    simp only [jour_Store_Used]
    rw [if_neg (by simp), bounds_at (by omega) (by omega) h1]
    simp only []
    rw [w64_id (by omega) (by omega)]
theorem fill_at {n : Nat} (a len : Nat) (b3 : Bool) (i : Int) (st : Unit × Unit × Int × Int × Int × Unit) (D : Int × Unit × Unit × Int × Int × Bool × Unit) (m : MM) (f p : M) (hl : len ≤ 3000) : ∀ (d j k : Nat) (b : List Int), j + d = len → d < k → b.length = len →
    ∃ b', b'.length = len ∧ law4_JourGoes_l14 n k (((a : Int), (len : Int), b3, (), (), i, (), (j : Int), ()), (st, D, b, m, f, p, ())) = some (.inl (((a : Int), (len : Int), b3, (), (), i, (), ()), (st, D, b', m, f, p, ()))) := by
  obtain ⟨s1, s2, s3, s4, s5, s6⟩ := st
  obtain ⟨d1, d2, d3, d4, d5, d6, d7⟩ := D
  intro d
  induction d with
  | zero =>
    intro j k b hj hk hb
    obtain ⟨k, rfl⟩ : ∃ m, k = m + 1 := ⟨k - 1, by omega⟩
    refine ⟨b, hb, ?_⟩
    rw [law4_JourGoes_l14, if_neg (by simp; omega)]
  | succ d ih =>
    intro j k b hj hk hb
    obtain ⟨k, rfl⟩ : ∃ m, k = m + 1 := ⟨k - 1, by omega⟩
    obtain ⟨b', h1, h2⟩ := ih (j + 1) k (List.set b (j : Int).toNat (IntKind.u8.wrap i)) (by omega) (by omega) (by rw [List.length_set]; exact hb)
    refine ⟨b', h1, ?_⟩
    rw [law4_JourGoes_l14, if_pos (decide_eq_true (show (j : Int) < (b.length : Int) by omega)), if_pos (show 0 ≤ (j : Int) ∧ (j : Int) < (b.length : Int) from ⟨by omega, by omega⟩)]
    simp only []
    rw [w64_up j (by omega)]
    exact h2
theorem run10 {n : Nat} (hn : 80000 < n) (N len : Nat) (hN : N < 400) (hlen : len < 200) : ∀ (d i k : Nat) {m : MM} {h e c : Int} {q : Nat} {f : M}, i + d = N → d < k → Gs m h e c q f i →
    ∃ (m' : MM) (h' e' c' : Int) (q' : Nat) (f' : M), Gs m' h' e' c' q' f' N ∧ law4_JourGoes_l10 n k (((N : Int), (len : Int), true, (), (), (i : Int), ()), (((), (), h, e, (q : Int), ()), (((120 : Nat) : Int), (), (), c, 0, false, ()), m, f, [], ())) = some (.inl (((N : Int), true, (), ()), ((((120 : Nat) : Int), (), (), c', 0, false, ()), f', [], ()))) := by
  intro d
  induction d with
  | zero =>
    intro i k m h e c q f hi hk P
    obtain ⟨k, rfl⟩ : ∃ m, k = m + 1 := ⟨k - 1, by omega⟩
    obtain rfl : i = N := by omega
    refine ⟨m, h, e, c, q, f, P, ?_⟩
    rw [law4_JourGoes_l10, if_neg (by simp)]
  | succ d ih =>
    intro i k m h e c q f hi hk P
    obtain ⟨k, rfl⟩ : ∃ m, k = m + 1 := ⟨k - 1, by omega⟩
    obtain ⟨b', hb1, hb2⟩ := fill_at (n := n) N len true (i : Int) ((), (), h, e, (q : Int), ()) (((120 : Nat) : Int), (), (), c, 0, false, ()) m f [] (by omega) len 0 n (List.replicate len 0) (by omega) (by omega) (by simp)
    obtain ⟨m', h', e', c', q', f', P', hC⟩ := commit_step (n := n) (by omega) (by omega) P (v := strOfNums b') (by rw [str_size]; omega)
    obtain ⟨m2, h2, e2, c2, q2, f2, P2, hrun⟩ := ih (i + 1) k (by omega) (by omega) P'
    refine ⟨m2, h2, e2, c2, q2, f2, P2, ?_⟩
    rw [law4_JourGoes_l10, if_pos (decide_eq_true (show (i : Int) < (N : Int) by omega)), if_pos (show 0 ≤ (len : Int) ∧ (len : Int) ≤ (len : Int) ∧ (len : Int) * ((1 : Nat) : Int) ≤ 140737488355328 ∧ (len : Int) ≤ 140737488355328 from ⟨by omega, by omega, by omega, by omega⟩), show law4_JourGoes_l14 n n (((N : Int), (len : Int), true, (), (), (i : Int), (), 0, ()), (((), (), h, e, (q : Int), ()), (((120 : Nat) : Int), (), (), c, 0, false, ()), List.replicate (len : Int).toNat 0, m, f, [], ())) = _ from hb2]
    simp only []
    rw [WNum_at (by omega) (by omega) (by omega)]
    simp only []
    rcases hC with hC | hC
    all_goals
      rw [show jour_Store_Commit n (((), [((⟨#[97]⟩ : ByteArray), (strOfNums b', false)), ((⟨#[110]⟩ : ByteArray), (itoaS (i : Int), false))], ()), (((), (), h, e, (q : Int), ()), (((120 : Nat) : Int), (), (), c, 0, false, ()), m, f, [], ())) = _ from hC]
      simp only []
      rw [if_neg (by decide), w64_up i (by omega)]
      exact hrun
theorem goes {n : Nat} (hn : 90000 < n) (a b : Int) : law4_JourGoes (n + 1) ⟨⟨a, b, ⟨⟩⟩, ⟨⟩⟩ = some ((true, ()), ()) := by
  rw [law4_JourGoes, first_at (by omega)]
  simp only []
  rw [if_neg (by decide), Number_at (by omega) _ (by omega) (by omega)]
  simp only []
  rw [Number_at (by omega) _ (by omega) (by omega)]
  simp only []
  obtain ⟨N, hv1, hv2⟩ := num_nat a (m := 400) (by omega)
  obtain ⟨len, hw1, hw2⟩ := num_nat b (m := 200) (by omega)
  rw [hv2, hw2]
  obtain ⟨h, e, q, m, g1, g2, g3, g4, g5⟩ := opened_at (n := n) (S := 120) ⟨by omega, by omega⟩ (by omega)
  have hmw : MW m := MW.nil.sim g5 g4
  have hk0 : keys m = [] := by
    cases hm : keys m with
    | nil => rfl
    | cons x r =>
      have h1 : x ∈ keys m := by rw [hm]; exact .head _
      have := mfind_in.2 h1
      rw [show mfind (keyEq (.str : Ty)) x m = mfind (keyEq (.str : Ty)) x [] from (g4 x).symm] at this
      cases this
  rw [show law4_opened n ((120, ()), ()) = _ from g1]
  simp only []
  obtain ⟨m', h', e', c', q', f', P', hrun⟩ := run10 (n := n) (by omega) N len (by omega) (by omega) N 0 n (m := m) (h := h) (e := e) (c := 0) (q := q) (f := []) (by omega) (by omega) ⟨g2, hmw, VL.sim (a := []) (fun p hp => by cases hp) g5 g4, (fun s hs => by rw [hk0] at hs; cases hs), by rw [if_pos rfl, ← g4 kN]; rfl, ⟨(fun x hx => by cases hx), Nat.zero_le _⟩, by omega, by omega, by omega⟩
  rw [show law4_JourGoes_l10 n n (((N : Int), (len : Int), true, (), (), 0, ()), (((), (), h, e, (q : Int), ()), (((120 : Nat) : Int), (), (), 0, 0, false, ()), m, [], [], ())) = _ from hrun]
  simp only []
  have hq' := P'.q1
  obtain ⟨h2, e2, q2, m2, o1, o2, o3, o4, o5⟩ := open_at (n := n) (by omega) (S := 120) (by omega) (c := c') (A := 0) (by omega) P'.inv.rest
  rw [show jour_Open n (((), ()), ((((120 : Nat) : Int), (), (), c', 0, false, ()), f', [], ())) = _ from o1]
  simp only []
  obtain ⟨u, u0, u1, hU⟩ := used_at (n := n) (by omega) (c := c') o2
  have hat := P'.at_
  rw [o4 kN] at hat
  have hG : jour_Store_Get n (((), (⟨#[110]⟩ : ByteArray), ()), (((), (), h2, e2, (q2 : Int), ()), (((120 : Nat) : Int), (), (), c', 0, false, ()), m2, f', [], ())) = some (((((mfind ks kN m2).getD (⟨#[]⟩ : ByteArray), ()), ((mfind ks kN m2).isSome, ()), ()), ()), (((), (), h2, e2, (q2 : Int), ()), (((120 : Nat) : Int), (), (), c', 0, false, ()), m2, f', [], ())) := by
    obtain ⟨n, rfl⟩ : ∃ k, n = k + 1 := ⟨n - 1, by omega⟩
    rfl
  rw [if_neg (by decide), hG]
  simp only []
  rw [if_pos trivial, hat]
  by_cases hN : N = 0
  · rw [if_pos hN, if_pos (by rw [hN]; rfl), if_pos (by rw [hN]; rfl), hU]
    simp only []
    rw [decide_eq_true u1]
  · rw [if_neg hN, if_pos (by simp; omega), if_neg (by simp; omega), show IntKind.i64.wrap ((N : Int) - 1) = ((N - 1 : Nat) : Int) by rw [w64_id (by omega) (by omega)]; omega, WNum_at (by omega) (by omega) (by omega)]
    simp only []
    rw [if_pos (show strEq ((some (itoaS ((N - 1 : Nat) : Int))).getD (⟨#[]⟩ : ByteArray)) (itoaS ((N - 1 : Nat) : Int)) = true from strEq_true.2 rfl), hU]
    simp only []
    rw [decide_eq_true u1]
theorem JourGoes : law4_JourGoes.Pure := by
  intro a b _ _
  exact ⟨99999 + 1, goes (by omega) a b⟩
end Go.Proofs.YtodiddgpdmigcaaGreatDoor.Pure
