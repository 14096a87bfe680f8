/- JourWhole, in plain words: of a Commit of many records all are there, or none. By this session. -/
import Derived.Test.YthbbokndogjopaaGreatDoorJourWholeM
import Derived.KernelRfl
namespace Go.Proofs.YthbbokndogjopaaGreatDoor.Pure
open Go Go.Lib Go.Proofs.YthbbokndogjopaaGreatDoor.Cm
open Classical
set_option linter.unusedVariables false
set_option linter.unusedSimpArgs false
set_option maxRecDepth 100000
abbrev SL := List ByteArray
abbrev keys {V : Type} (m : List (ByteArray × V)) : SL := m.map Prod.fst
theorem kq (a b : ByteArray) : (keyEq (.str : Ty) a b = true) ↔ a = b := keyS_true a b
theorem mfind_in {V : Type} {s : ByteArray} : ∀ {m : List (ByteArray × V)}, (mfind (keyEq (.str : Ty)) s m).isSome = true ↔ s ∈ keys m
  | [] => by simp [mfind, keys]
  | p :: m => by
    unfold mfind
    by_cases h : s = p.1
    · rw [if_pos ((kq _ _).2 h)]
      simp [keys, h]
    · rw [if_neg (fun e => h ((kq _ _).1 e)), mfind_in]
      simp [keys, h]
theorem mfind_out {V : Type} {s : ByteArray} {m : List (ByteArray × V)} (h : s ∉ keys m) : mfind (keyEq (.str : Ty)) s m = none := by
  cases e : mfind (keyEq (.str : Ty)) s m with
  | none => rfl
  | some v => exact absurd (mfind_in.1 (by rw [e]; rfl)) h
theorem mfind_mset {V : Type} (k : ByteArray) (v : V) (s : ByteArray) : ∀ m : List (ByteArray × V), mfind (keyEq (.str : Ty)) s (mset (keyEq (.str : Ty)) k v m) = if s = k then some v else mfind (keyEq (.str : Ty)) s m
  | [] => by
    unfold mset mfind
    by_cases h : s = k
    · rw [if_pos ((kq _ _).2 h), if_pos h]
    · rw [if_neg (fun e => h ((kq _ _).1 e)), if_neg h]; rfl
  | p :: m => by
    unfold mset
    by_cases hk : k = p.1
    · rw [if_pos ((kq _ _).2 hk)]
      unfold mfind
      by_cases h : s = k
      · rw [if_pos ((kq _ _).2 h), if_pos h]
      · rw [if_neg (fun e => h ((kq _ _).1 e)), if_neg h, if_neg (fun e => h (((kq _ _).1 e).trans hk.symm))]
    · rw [if_neg (fun e => hk ((kq _ _).1 e))]
      unfold mfind
      by_cases h : s = p.1
      · rw [if_pos ((kq _ _).2 h), if_pos ((kq _ _).2 h), if_neg (fun e => hk (e.symm.trans h))]
      · rw [if_neg (fun e => h ((kq _ _).1 e)), if_neg (fun e => h ((kq _ _).1 e)), mfind_mset k v s m]
theorem mset_new {V : Type} {k : ByteArray} {v : V} : ∀ {m : List (ByteArray × V)}, k ∉ keys m → mset (keyEq (.str : Ty)) k v m = m ++ [(k, v)]
  | [], _ => rfl
  | p :: m, h => by
    simp only [keys, List.map_cons, List.mem_cons, not_or] at h
    unfold mset
    rw [if_neg (fun e => h.1 ((kq _ _).1 e)), mset_new h.2]
    rfl
theorem nodup_len : ∀ {l m : SL}, l.Nodup → (∀ x ∈ l, x ∈ m) → l.length ≤ m.length
  | [], m, _, _ => Nat.zero_le _
  | x :: l, m, h, hs => by
    rw [List.nodup_cons] at h
    obtain ⟨a, b, rfl⟩ := List.append_of_mem (hs x (.head _))
    have : l.length ≤ (a ++ b).length := nodup_len h.2 (fun y hy => by
      have := hs y (.tail _ hy)
      rw [List.mem_append, List.mem_cons] at this
      rw [List.mem_append]
      rcases this with h1 | rfl | h1
      · exact .inl h1
      · exact absurd hy h.1
      · exact .inr h1)
    simp only [List.length_append, List.length_cons] at this ⊢
    omega
theorem mset_keys2 (k : ByteArray) (v : ByteArray) : ∀ m : MM, keys (mset ks k v m) = if k ∈ keys m then keys m else keys m ++ [k]
  | [] => by simp [mset, keys]
  | p :: m => by
    unfold mset
    by_cases h : k = p.1
    · rw [if_pos ((kq _ _).2 h), if_pos (by simp [keys, h])]
      simp [keys, h]
    · rw [if_neg (fun e => h ((kq _ _).1 e))]
      have ih := mset_keys2 k v m
      show p.1 :: keys (mset ks k v m) = _
      rw [ih]
      by_cases h2 : k ∈ keys m
      · rw [if_pos h2, if_pos (by simp only [keys, List.map_cons, List.mem_cons]; exact .inr h2)]
        rfl
      · rw [if_neg h2, if_neg (by simp only [keys, List.map_cons, List.mem_cons]; exact fun e => e.elim h h2)]
        rfl
theorem mset_nodup {k v : ByteArray} {m : MM} (h : (keys m).Nodup) : (keys (mset ks k v m)).Nodup := by
  rw [mset_keys2]
  split
  · exact h
  · rename_i h2
    rw [List.nodup_append]
    exact ⟨h, by simp, fun a ha b hb e => by simp at hb; subst hb; subst e; exact h2 ha⟩
theorem mdel_sub (k : ByteArray) : ∀ m : MM, (mdel ks k m).Sublist m
  | [] => .slnil
  | p :: m => by
    unfold mdel
    split
    · exact .cons _ (.refl _)
    · exact .cons_cons _ (mdel_sub k m)
theorem mdel_nodup {k : ByteArray} {m : MM} (h : (keys m).Nodup) : (keys (mdel ks k m)).Nodup := ((mdel_sub k m).map Prod.fst).nodup h
theorem mfind_mdel {k s : ByteArray} : ∀ {m : MM}, (keys m).Nodup → mfind ks s (mdel ks k m) = if s = k then none else mfind ks s m
  | [], _ => by simp [mdel, mfind]
  | p :: m, h => by
    have h : (p.1 :: keys m).Nodup := h
    rw [List.nodup_cons] at h
    unfold mdel
    by_cases hk : k = p.1
    · rw [if_pos ((kq _ _).2 hk)]
      by_cases hs : s = k
      · rw [if_pos hs]
        exact mfind_out (by rw [hs, hk]; exact h.1)
      · rw [if_neg hs]
        conv => rhs; unfold mfind
        rw [if_neg (fun e => hs (((kq _ _).1 e).trans hk.symm))]
    · rw [if_neg (fun e => hk ((kq _ _).1 e))]
      unfold mfind
      by_cases hs : s = p.1
      · rw [if_pos ((kq _ _).2 hs), if_pos ((kq _ _).2 hs), if_neg (fun e => hk (e.symm.trans hs))]
      · rw [if_neg (fun e => hs ((kq _ _).1 e)), if_neg (fun e => hs ((kq _ _).1 e)), mfind_mdel h.2]
theorem appl_nodup {m : MM} (h : (keys m).Nodup) : ∀ l : List ChT, (keys (appl m l)).Nodup := by
  intro l
  induction l generalizing m with
  | nil => exact h
  | cons c l ih =>
    show (keys (appl (apC m c) l)).Nodup
    refine ih ?_
    unfold apC
    split
    · exact mdel_nodup h
    · exact mset_nodup h
/-! ### order -/
theorem strLt_eq (x y : ByteArray) : strLt x y = decide (x.data.toList < y.data.toList) := less_eq _ _
theorem str_ext {x y : ByteArray} (h : x.data.toList = y.data.toList) : x = y := by
  cases x; cases y
  congr 1
  exact Array.toList_inj.1 h
theorem strLt_irr (x : ByteArray) : strLt x x = false := by
  rw [strLt_eq]
  exact decide_eq_false (List.lt_irrefl _)
theorem strLt_asym {x y : ByteArray} (h : strLt x y = true) : strLt y x = false := by
  rw [strLt_eq] at h ⊢
  exact decide_eq_false (fun h2 => List.lt_irrefl _ (List.lt_trans (of_decide_eq_true h) h2))
theorem strLt_trans {x y z : ByteArray} (h : strLt x y = true) (h2 : strLt y z = true) : strLt x z = true := by
  rw [strLt_eq] at h h2 ⊢
  exact decide_eq_true (List.lt_trans (of_decide_eq_true h) (of_decide_eq_true h2))
/-- Names that rise. -/
def Rising (l : SL) : Prop := l.Pairwise (fun a b => strLt a b = true)
theorem sortS_rising {l : SL} (h : l.Nodup) : Rising (sortS l) := by
  have h1 := (sortS_spec l).2
  have h2 : (sortS l).Nodup := (sortS_perm l).nodup_iff.2 h
  rw [List.pairwise_map] at h1
  refine List.Pairwise.imp₂ (R := fun a b : ByteArray => a.data.toList ≤ b.data.toList) (S := fun a b => a ≠ b) (fun a b hab hne => ?_) h1 h2
  rw [strLt_eq]
  refine decide_eq_true ?_
  rcases List.le_iff_lt_or_eq.1 hab with h | h
  · exact h
  · exact absurd (str_ext h) hne
theorem rising_nodup {l : SL} (h : Rising l) : l.Nodup := List.Pairwise.imp (fun {a b} hab e => by rw [e, strLt_irr] at hab; cases hab) h
/-- The names that rise and are the same are the same row. -/
theorem rising_sort {l : SL} (h : Rising l) : sortS l = l := by
  have h1 := (sortS_spec l).2
  have hp := sortS_perm l
  have h2 : (sortS l).Pairwise (fun a b => a.data.toList ≤ b.data.toList) := List.pairwise_map.1 h1
  have h3 : l.Pairwise (fun a b => a.data.toList ≤ b.data.toList) := List.Pairwise.imp (fun {a b} hab => List.le_of_lt (by rw [strLt_eq] at hab; exact of_decide_eq_true hab)) h
  exact List.Perm.eq_of_pairwise (le := fun a b : ByteArray => a.data.toList ≤ b.data.toList) (fun a b _ _ ha hb => str_ext (List.le_antisymm ha hb)) h2 h3 hp
/-- Rising rows of the same names are the same row. -/
theorem rising_eq {a b : SL} (ha : Rising a) (hb : Rising b) (h : ∀ x, x ∈ a ↔ x ∈ b) : a = b := by
  have le : ∀ {l : SL}, Rising l → l.Pairwise (fun a b => a.data.toList ≤ b.data.toList) := fun h => List.Pairwise.imp (fun {a b} hab => List.le_of_lt (by rw [strLt_eq] at hab; exact of_decide_eq_true hab)) h
  have hp : a.Perm b := (List.perm_ext_iff_of_nodup (rising_nodup ha) (rising_nodup hb)).2 h
  exact List.Perm.eq_of_pairwise (le := fun a b : ByteArray => a.data.toList ≤ b.data.toList) (fun a b _ _ ha hb => str_ext (List.le_antisymm ha hb)) (le ha) (le hb) hp
theorem SameTexts_at {n : Nat} (l m : SL) (hn : 10 + l.length ≤ n) (hl : l.length < 1000000000) : ref_SameTexts n ((l, m, ()), ()) = some ((decide (l = m), ()), ()) := by
  obtain ⟨n, rfl⟩ : ∃ k, n = k + 1 := ⟨n - 1, by omega⟩
  simp only [ref_SameTexts]
  by_cases hlen : l.length = m.length
  · rw [if_neg (by simp [hlen])]
    have a := for_inv (F := ref_SameTexts_l4 n) (len := l.length) (st := fun i => ((l, m, (i : Int), ()), ())) (fun i => l.take i = m.take i) (fun r => (r = some (.inl ((), ())) ∧ l = m) ∨ (r = some (.inr (.inl ((false, ()), ()))) ∧ l ≠ m)) (by simp) (fun i k hi hI => by
      simp only [ref_SameTexts_l4]
      rw [if_pos (decide_eq_true (show (i : Int) < (l.length : Int) by omega)), if_pos (show 0 ≤ (i : Int) ∧ (i : Int) < (l.length : Int) from ⟨by omega, by omega⟩), if_pos (show 0 ≤ (i : Int) ∧ (i : Int) < (m.length : Int) from ⟨by omega, by omega⟩)]
      rw [rdT_nat, rdT_nat, strEq_iff]
      by_cases he : l.getD i (Ty.dflt .str) = m.getD i (Ty.dflt .str)
      · refine .inl ⟨take_eq_succ hI hi (by omega) _ he, ?_⟩
        rw [decide_eq_true he, if_neg (by decide), w64_up i (by omega)]
      · refine .inr (.inr ⟨?_, ne_of_getD _ he⟩)
        rw [decide_eq_false he, if_pos (by decide)]) (fun k hI => by
      rw [List.take_length, hlen, List.take_length] at hI
      refine .inl ⟨?_, hI⟩
      simp only [ref_SameTexts_l4]
      rw [if_neg (by simp)]) n (by omega)
    rw [show (0 : Int) = ((0 : Nat) : Int) from rfl]
    rcases a with ⟨a, h⟩ | ⟨a, h⟩
    · rw [a, decide_eq_true h]
    · rw [a, decide_eq_false h]
  · rw [if_pos (by simp; omega), decide_eq_false (fun h => hlen (by rw [h]))]
end Go.Proofs.YthbbokndogjopaaGreatDoor.Pure

namespace Go.Proofs.YthbbokndogjopaaGreatDoor.Pure
open Go Go.Lib Go.Proofs.YthbbokndogjopaaGreatDoor.Cm
open Classical
set_option linter.unusedVariables false
set_option linter.unusedSimpArgs false
set_option maxRecDepth 100000
/-! ### records -/
def Sim (a b : MM) : Prop := ∀ s, mfind ks s a = mfind ks s b
theorem Sim.symm {a b : MM} (h : Sim a b) : Sim b a := fun s => (h s).symm
theorem Sim.trans {a b c : MM} (h : Sim a b) (h2 : Sim b c) : Sim a c := fun s => (h s).trans (h2 s)
theorem apC_nodup {m : MM} (h : (keys m).Nodup) (c : ChT) : (keys (apC m c)).Nodup := by
  unfold apC
  split
  · exact mdel_nodup h
  · exact mset_nodup h
theorem mfind_apC {m : MM} (h : (keys m).Nodup) (c : ChT) (s : ByteArray) : mfind ks s (apC m c) = if s = c.1 then (if c.2.2 = true then none else some c.2.1) else mfind ks s m := by
  unfold apC
  split
  · exact mfind_mdel h
  · exact mfind_mset c.1 c.2.1 s m
theorem Sim.apC {a b : MM} (ha : (keys a).Nodup) (hb : (keys b).Nodup) (h : Sim a b) (c : ChT) : Sim (apC a c) (apC b c) := fun s => by
  rw [mfind_apC ha, mfind_apC hb, h s]
theorem Sim.appl : ∀ (l : List ChT) {a b : MM}, (keys a).Nodup → (keys b).Nodup → Sim a b → Sim (appl a l) (appl b l)
  | [], _, _, _, _, h => h
  | c :: l, _, _, ha, hb, h => Sim.appl l (apC_nodup ha c) (apC_nodup hb c) (h.apC ha hb c)
theorem applS_nodup : ∀ (l : List CallT) {m : MM}, (keys m).Nodup → (keys (applS m l)).Nodup
  | [], _, h => h
  | x :: l, _, h => applS_nodup l (appl_nodup h x.2)
theorem applS_append (m : MM) (l : List CallT) (x : CallT) : applS m (l ++ [x]) = appl (applS m l) x.2 := by
  unfold applS
  rw [List.foldl_append]
  rfl
theorem mfind_row (f : ByteArray → ByteArray) (s : ByteArray) : ∀ l : SL, mfind ks s (l.map fun k => (k, f k)) = if s ∈ l then some (f s) else none
  | [] => by rw [if_neg (by simp)]; rfl
  | k :: l => by
    simp only [List.map_cons]
    unfold mfind
    by_cases h : s = k
    · rw [if_pos ((kq _ _).2 h), if_pos (by rw [h]; exact .head _), h]
    · rw [if_neg (fun e => h ((kq _ _).1 e)), mfind_row f s l]
      simp [h]
/-- Records, their keys rising. -/
def recs (m : MM) : MM := (sortS (keysM m)).map fun k => (k, getM m k)
theorem dump_recs (m : MM) : dump m = (recs m).map fun p => ((p.1, p.2, false) : ChT) := by
  unfold dump recs
  rw [List.map_map]
  rfl
theorem recs_keys (m : MM) : keys (recs m) = sortS (keysM m) := by
  unfold recs keys
  rw [List.map_map]
  show (sortS (keysM m)).map (fun k => k) = _
  simp
theorem recs_len (m : MM) : (recs m).length = m.length := by
  unfold recs
  rw [List.length_map, (sortS_perm _).length_eq, List.length_map]
theorem mfind_recs (m : MM) (s : ByteArray) : mfind ks s (recs m) = mfind ks s m := by
  unfold recs
  rw [mfind_row]
  by_cases h : s ∈ keys m
  · rw [if_pos ((sortS_perm _).mem_iff.2 h)]
    have := mfind_in.2 h
    unfold getM
    cases e : mfind ks s m with
    | none => rw [show mfind (keyEq (.str : Ty)) s m = none from e] at this; cases this
    | some v => rfl
  · rw [if_neg (fun e => h ((sortS_perm _).mem_iff.1 e)), show mfind ks s m = none from mfind_out h]
theorem recs_rising {m : MM} (h : (keys m).Nodup) : Rising (keys (recs m)) := by
  rw [recs_keys]
  exact sortS_rising h
/-- Rising records of the same lookups are the same row. -/
theorem row_eq : ∀ {a b : MM}, (keys a).Nodup → keys a = keys b → Sim a b → a = b
  | [], [], _, _, _ => rfl
  | [], q :: b, _, h, _ => by cases h
  | p :: a, [], _, h, _ => by cases h
  | p :: a, q :: b, hn, h, hs => by
    have h1 : p.1 = q.1 := by simp [keys] at h; exact h.1
    have h2 : keys a = keys b := by simp [keys] at h ⊢; exact h.2
    have hn2 : p.1 ∉ keys a ∧ (keys a).Nodup := List.nodup_cons.1 hn
    have hv : p.2 = q.2 := by
      have := hs p.1
      unfold mfind at this
      rw [if_pos ((kq _ _).2 rfl), if_pos ((kq _ _).2 h1)] at this
      injection this
    have hpq : p = q := by
      obtain ⟨p1, p2⟩ := p
      obtain ⟨q1, q2⟩ := q
      simp only at h1 hv
      rw [h1, hv]
    have hrec := row_eq hn2.2 h2 (fun s => by
      have := hs s
      unfold mfind at this
      by_cases e : s = p.1
      · rw [e, show mfind ks p.1 a = none from mfind_out hn2.1, show mfind ks p.1 b = none from mfind_out (by rw [← h2]; exact hn2.1)]
      · rw [if_neg (fun x => e ((kq _ _).1 x)), if_neg (fun x => e (((kq _ _).1 x).trans h1.symm))] at this
        exact this)
    rw [hpq, hrec]
theorem rec_eq {a b : MM} (ha : Rising (keys a)) (hb : Rising (keys b)) (h : Sim a b) : a = b :=
  row_eq (rising_nodup ha) (rising_eq ha hb (fun x => by rw [← mfind_in, ← mfind_in]; rw [show mfind (keyEq (.str : Ty)) x a = mfind (keyEq (.str : Ty)) x b from h x])) h
theorem recs_sim {a b : MM} (ha : (keys a).Nodup) (hb : (keys b).Nodup) (h : Sim a b) : recs a = recs b :=
  rec_eq (recs_rising ha) (recs_rising hb) (fun s => by rw [mfind_recs, mfind_recs, h s])
theorem sim_recs {a b : MM} (h : recs a = recs b) : Sim a b := fun s => by rw [← mfind_recs a, ← mfind_recs b, h]
/-- Records that may be, each key once. -/
def MW (m : MM) : Prop := m.length ≤ 256 ∧ (∀ p ∈ m, p.1.size ≤ 40 ∧ p.2.size ≤ 32768) ∧ (keys m).Nodup
theorem MW.mi {m : MM} (h : MW m) : MI m := ⟨by have := h.1; omega, h.2.1⟩
theorem MW.appl {m : MM} (h : MW m) {l : List ChT} (hb : bad m l = none) : MW (appl m l) := by
  have := h.mi.appl hb
  exact ⟨(bad_none hb).2, this.2, appl_nodup h.2.2 l⟩
theorem MW.nil : MW [] := ⟨by decide, (fun p hp => by cases hp), List.Pairwise.nil⟩
theorem mem_mfind {m : MM} {p : ByteArray × ByteArray} (h : (keys m).Nodup) (hp : p ∈ m) : mfind ks p.1 m = some p.2 := by
  induction m with
  | nil => cases hp
  | cons a m ih =>
    have h2 : a.1 ∉ keys m ∧ (keys m).Nodup := List.nodup_cons.1 h
    unfold mfind
    rcases List.mem_cons.1 hp with rfl | hp
    · rw [if_pos ((kq _ _).2 rfl)]
    · rw [if_neg (fun e => h2.1 (by rw [← (kq _ _).1 e]; exact List.mem_map.2 ⟨p, hp, rfl⟩)), ih h2.2 hp]
theorem MW.sim {a b : MM} (h : MW a) (hb : (keys b).Nodup) (hs : Sim a b) : MW b := by
  refine ⟨?_, fun p hp => ?_, hb⟩
  · have h1 : (keys b).length ≤ (keys a).length := nodup_len hb (fun x hx => by
      rw [← mfind_in] at hx ⊢
      rw [show mfind (keyEq (.str : Ty)) x a = mfind (keyEq (.str : Ty)) x b from hs x]
      exact hx)
    have h2 := h.1
    simp only [keys, List.length_map] at h1
    omega
  · have := mem_mfind hb hp
    rw [← hs] at this
    exact h.2.1 _ (mfind_mem this)
theorem appl_row : ∀ (r : MM) {a : MM}, (keys r).Nodup → (keys a).Nodup → Sim (appl a (r.map fun p => ((p.1, p.2, false) : ChT))) (r ++ a)
  | [], a, _, _ => fun s => rfl
  | p :: r, a, hr, ha => fun s => by
    have h2 : p.1 ∉ keys r ∧ (keys r).Nodup := List.nodup_cons.1 hr
    have ih := appl_row r h2.2 (apC_nodup ha ((p.1, p.2, false) : ChT)) s
    show mfind ks s (appl (apC a (p.1, p.2, false)) (r.map fun p => ((p.1, p.2, false) : ChT))) = _
    rw [ih]
    have app : ∀ (x y : MM), mfind ks s (x ++ y) = (mfind ks s x).or (mfind ks s y) := fun x y => by
      induction x with
      | nil => rfl
      | cons q x ih =>
        simp only [List.cons_append, mfind]
        split
        · rfl
        · exact ih
    rw [app, app, mfind_apC ha]
    have hp : mfind ks s (p :: r) = if ks s p.1 = true then some p.2 else mfind ks s r := rfl
    rw [hp]
    by_cases h : s = p.1
    · subst h
      rw [if_pos rfl, if_pos ((kq _ _).2 rfl), show mfind ks p.1 r = none from mfind_out h2.1]
      rfl
    · rw [if_neg h, if_neg (fun e => h ((kq _ _).1 e))]
theorem appl_dump {m : MM} (h : (keys m).Nodup) : Sim (appl [] (dump m)) m := by
  rw [dump_recs]
  have := appl_row (recs m) (a := []) (rising_nodup (recs_rising h)) .nil
  rw [List.append_nil] at this
  exact this.trans (fun s => mfind_recs m s)
/-! ### the disk's halves -/
def Hf (S : Nat) (f : M) (k : Nat) (l : List CallT) (e last : Nat) : Prop := Ser f ((k + 1) * (S / 2)) l (k * (S / 2)) 0 e last ∧ Stop f S ((k + 1) * (S / 2)) e last
/-- The disk has just these records. -/
def Rest (S : Nat) (f : M) (q : Nat) (m : MM) : Prop := Dk S f q ∧ ((Sim m [] ∧ ∃ l0 e0 l1 e1, Hf S f 0 l0 e0 0 ∧ Hf S f 1 l1 e1 0) ∨
  ∃ k l e n lo eo no, k ≤ 1 ∧ Hf S f k l e n ∧ Hf S f (1 - k) lo eo no ∧ no < n ∧ n ≤ q ∧ Sim m (applS [] l))
/-- The store's own state fits to the disk. -/
def Inv (S : Nat) (f : M) (h e : Int) (q : Nat) (m : MM) : Prop := Dk S f q ∧ ((h = -1 ∧ Sim m [] ∧ ∃ l0 e0 l1 e1, Hf S f 0 l0 e0 0 ∧ Hf S f 1 l1 e1 0) ∨
  ∃ k l e' n lo eo no, k ≤ 1 ∧ h = ((k : Nat) : Int) ∧ e = ((e' : Nat) : Int) ∧ Hf S f k l e' n ∧ Hf S f (1 - k) lo eo no ∧ no < n ∧ n ≤ q ∧ Sim m (applS [] l))
theorem Inv.rest {S : Nat} {f : M} {h e : Int} {q : Nat} {m : MM} (I : Inv S f h e q m) : Rest S f q m := by
  obtain ⟨hd, ⟨-, h2, h3⟩ | ⟨k, l, e', n, lo, eo, no, h1, -, -, h2, h3, h4, h5, h6⟩⟩ := I
  · exact ⟨hd, .inl ⟨h2, h3⟩⟩
  · exact ⟨hd, .inr ⟨k, l, e', n, lo, eo, no, h1, h2, h3, h4, h5, h6⟩⟩
theorem half_le (S : Nat) {k : Nat} (hk : k ≤ 1) : k * (S / 2) ≤ (k + 1) * (S / 2) ∧ (k + 1) * (S / 2) ≤ S := by
  have : k = 0 ∨ k = 1 := by omega
  rcases this with rfl | rfl <;> omega
theorem Hf.le {S k l e last} {f : M} (h : Hf S f k l e last) (hk : k ≤ 1) : k * (S / 2) ≤ e ∧ e ≤ (k + 1) * (S / 2) := ⟨(Ser.last_le h.1).2, Ser.le_en h.1 (half_le S hk).1⟩
theorem Inv.at_ {S : Nat} {f : M} {h e : Int} {q : Nat} {m : MM} (I : Inv S f h e q m) : At S h e := by
  obtain ⟨hd, ⟨h1, -, -⟩ | ⟨k, l, e', n, lo, eo, no, h1, h2, h3, h4, -⟩⟩ := I
  · exact .inl h1
  · exact .inr ⟨k, e', h1, h2, h3, (h4.le h1).2⟩
/-! ### it is opened -/
theorem Ser.len {f : M} {en : Nat} : ∀ {l : List CallT} {a above e last : Nat}, Ser f en l a above e last → a + l.length ≤ e
  | [], a, above, e, last, h => by obtain ⟨rfl, rfl⟩ := h; exact Nat.le_refl _
  | x :: r, a, above, e, last, h => by
    obtain ⟨h1, h2, h3, h4, h5, h6, h7⟩ := h
    have := Ser.len h7
    have hpos := secs_pos (bts_pos above x)
    simp only [List.length_cons]
    omega
theorem load_at {n : Nat} (hn : 40000 < n) {S : Nat} (hS : S ≤ 16384) {c A : Int} {f : M} (hok : ∀ i, i < S → OkS f i) {k : Nat} (hk : k ≤ 1) {l : List CallT} {e last : Nat} (h : Hf S f k l e last) :
    jour_load n (((), (k : Int), ()), (((S : Int), (), (), c, A, false, ()), f, ([] : M), ())) = some (.inl (((((), ()), ((e : Int), ()), ((last : Int), ()), (ErrV.nil, ()), ()), ()), (((S : Int), (), (), c, A, false, ()), f, [], applS [] l, ()))) := by
  obtain ⟨n, rfl⟩ : ∃ k, n = k + 1 := ⟨n - 1, by omega⟩
  have hle := half_le S hk
  have hl := Ser.len h.1
  have hle2 := h.le hk
  have hr := load_run (n := n) (by omega) hS (c := c) (A := A) hok hle.2 l (k * (S / 2)) 0 e last n [] (by omega) hle.1 h.1 h.2
  simp only [jour_load, bounds_at (n := n) (by omega) hS hk]
  rw [show jour_load_l4 n n (((), ((k * (S / 2) : Nat) : Int), (((k + 1) * (S / 2) : Nat) : Int), (), 0, ()), (((S : Int), (), (), c, A, false, ()), f, ([] : M), [], ())) = _ from hr]
theorem calls_at {n : Nat} (hn : 1000 < n) {S : Nat} (hS : S ≤ 16384) {c A : Int} {f : M} {q : Nat} (hd : Dk S f q) (hq : q < 4611686018427387904) (h e : Int) (m : MM) : ∀ d i k v, i + d = S → d < k → v ≤ q → (∀ j, j < i → mfind ki (j : Int) f = none ∨ ∃ (Q j' : Nat) (b : List Int), mfind ki (j : Int) f = some (sect (Q : Int) b j') ∧ 1 ≤ Q ∧ Q ≤ v ∧ j' < secs b.length ∧ secs b.length < 65536) →
    ∃ v', v' ≤ q ∧ Dk S f v' ∧ jour_Open_l14 n k (((), (), (S : Int), (i : Int), ()), (((S : Int), (), (), c, A, false, ()), f, ([] : M), ((), (), h, e, (v : Int), ()), m, ())) = some (.inl (((), ()), (((S : Int), (), (), c, A, false, ()), f, [], ((), (), h, e, ((v' : Nat) : Int), ()), m, ()))) := by
  intro d
  induction d with
  | zero =>
    intro i k v hi hk hv hj
    obtain ⟨k, rfl⟩ : ∃ m, k = m + 1 := ⟨k - 1, by omega⟩
    obtain rfl : i = S := by omega
    refine ⟨v, hv, hj, ?_⟩
    simp only [jour_Open_l14]
    rw [if_neg (by simp)]
  | succ d ih =>
    intro i k v hi hk hv hj
    obtain ⟨k, rfl⟩ : ∃ m, k = m + 1 := ⟨k - 1, by omega⟩
    rcases hd i (by omega) with h1 | ⟨Q, j', b, h1, h2, h3, h4, h5⟩
    · obtain ⟨v', g1, g2, g3⟩ := ih (i + 1) k v (by omega) (by omega) hv (fun j hj2 => by
        rcases Nat.lt_or_ge j i with hlt | hge
        · exact hj j hlt
        · obtain rfl : j = i := by omega
          exact .inl h1)
      refine ⟨v', g1, g2, ?_⟩
      rw [jour_Open_l14, if_pos (decide_eq_true (show (i : Int) < (S : Int) by omega)), readno_at (by omega) (by omega) (by omega) h1]
      simp only []
      rw [if_neg (by decide), if_neg (by decide), w64_up i (by omega)]
      exact g3
    · have hmx : mx (v : Int) (Q : Int) = ((max v Q : Nat) : Int) := by
        unfold mx
        split <;> omega
      obtain ⟨v', g1, g2, g3⟩ := ih (i + 1) k (max v Q) (by omega) (by omega) (by omega) (fun j hj2 => by
        rcases Nat.lt_or_ge j i with hlt | hge
        · rcases hj j hlt with g | ⟨Q', j'', b', g1, g2, g3, g4⟩
          · exact .inl g
          · exact .inr ⟨Q', j'', b', g1, g2, by omega, g4⟩
        · obtain rfl : j = i := by omega
          exact .inr ⟨Q, j', b, h1, h2, by omega, h4, h5⟩)
      refine ⟨v', g1, g2, ?_⟩
      rw [jour_Open_l14, if_pos (decide_eq_true (show (i : Int) < (S : Int) by omega)), read1_at (by omega) (by omega) (by omega) h1 (by omega) (by omega) h5]
      simp only []
      rw [if_neg (by decide), if_pos trivial, w64_up i (by omega), hmx]
      exact g3
/-- The last number stands on the disk. -/
theorem Ser.last_on {S q : Nat} {f : M} (hd : Dk S f q) {en : Nat} (hen : en ≤ S) (hq : q < 4611686018427387904) : ∀ {l : List CallT} {a above e last : Nat}, above ≤ q → Ser f en l a above e last → last ≤ q
  | [], a, above, e, last, ha, h => by obtain ⟨rfl, rfl⟩ := h; exact ha
  | x :: r, a, above, e, last, ha, h => by
    obtain ⟨h1, h2, h3, h4, h5, h6, h7⟩ := h
    have hpos := secs_pos (bts_pos above x)
    refine Ser.last_on hd hen hq ?_ h7
    have h0 := h5 0 hpos
    rcases hd (a + 0) (by omega) with g | ⟨Q, j, b, g1, g2, g3, g4⟩
    · rw [h0] at g; cases g
    · rw [h0] at g1
      injection g1 with g1
      rw [sect_inj h2 (by omega) g1]
      exact g3
theorem open_at {n : Nat} (hn : 60000 < n) {S : Nat} (hS : S ≤ 16384) {c A : Int} {f : M} {q : Nat} (hq : q < 4611686018427387904) {m : MM} (hR : Rest S f q m) :
    ∃ (h e : Int) (q' : Nat) (m' : MM), jour_Open n (((), ()), (((S : Int), (), (), c, A, false, ()), f, ([] : M), ())) = some (.inl (((((), ()), (ErrV.nil, ()), ()), ()), (((S : Int), (), (), c, A, false, ()), f, [], ((), (), h, e, (q' : Int), ()), m', ()))) ∧ Inv S f h e q' m' ∧ q' ≤ q ∧ Sim m m' ∧ (keys m').Nodup := by
  obtain ⟨n, rfl⟩ : ∃ k, n = k + 4 := ⟨n - 4, by omega⟩
  obtain ⟨hd, hR⟩ := hR
  have hok := hd.ok hq
  have fin : ∀ (h e : Int) (m' : MM) (l0 l1 : List CallT) (e0 e1 n0 n1 : Nat), Hf S f 0 l0 e0 n0 → Hf S f 1 l1 e1 n1 → (jour_Open_l4 (n + 3) (n + 3) (((), (), 0, 0, ()), (((S : Int), (), (), c, A, false, ()), f, ([] : M), ((), (), (-1), 0, 0, ()), [], ())) = some (.inl (((), (), ()), (((S : Int), (), (), c, A, false, ()), f, [], ((), (), h, e, 0, ()), m', ())))) → ∃ q' : Nat, jour_Open (n + 4) (((), ()), (((S : Int), (), (), c, A, false, ()), f, ([] : M), ())) = some (.inl (((((), ()), (ErrV.nil, ()), ()), ()), (((S : Int), (), (), c, A, false, ()), f, [], ((), (), h, e, (q' : Int), ()), m', ()))) ∧ q' ≤ q ∧ Dk S f q' := by
    intro h e m' l0 l1 e0 e1 n0 n1 H0 H1 hl4
    obtain ⟨v', g1, g2, g3⟩ := calls_at (n := n + 3) (by omega) hS (c := c) (A := A) hd hq h e m' S 0 (n + 3) 0 (by omega) (by omega) (by omega) (fun j hj => absurd hj (by omega))
    refine ⟨v', ?_, g1, g2⟩
    have e0 : disk_Disk_Sectors (n + 3) (((), ()), (((S : Int), (), (), c, A, false, ()), f, ([] : M), ())) = some (((S : Int), ()), (((S : Int), (), (), c, A, false, ()), f, [], ())) := rfl
    simp only [jour_Open]
    rw [hl4]
    simp only []
    rw [e0]
    simp only []
    rw [show jour_Open_l14 (n + 3) (n + 3) (((), (), (S : Int), 0, ()), (((S : Int), (), (), c, A, false, ()), f, ([] : M), ((), (), h, e, 0, ()), m', ())) = _ from g3]
  have two : ∀ (l0 l1 : List CallT) (e0 e1 n0 n1 : Nat), Hf S f 0 l0 e0 n0 → Hf S f 1 l1 e1 n1 → jour_Open_l4 (n + 3) (n + 3) (((), (), 0, 0, ()), (((S : Int), (), (), c, A, false, ()), f, ([] : M), ((), (), (-1), 0, 0, ()), [], ())) = some (.inl (((), (), ()), (((S : Int), (), (), c, A, false, ()), f, [], ((), (), (if n0 < n1 then 1 else if 0 < n0 then 0 else -1), (if n0 < n1 then (e1 : Int) else if 0 < n0 then (e0 : Int) else 0), 0, ()), (if n0 < n1 then applS [] l1 else if 0 < n0 then applS [] l0 else []), ()))) := by
    intro l0 l1 e0 e1 n0 n1 H0 H1
    have h0 := load_at (n := n + 3) (by omega) hS (c := c) (A := A) hok (k := 0) (by omega) H0
    have h1 := load_at (n := n + 3) (by omega) hS (c := c) (A := A) hok (k := 1) (by omega) H1
    rw [jour_Open_l4, if_pos (by decide), show jour_load (n + 3) (((), 0, ()), (((S : Int), (), (), c, A, false, ()), f, ([] : M), ())) = _ from h0]
    simp only []
    rw [if_neg (by decide), show IntKind.i64.wrap (0 + 1) = 1 from rfl]
    by_cases c0 : 0 < n0
    · rw [if_pos (decide_eq_true (show (n0 : Int) > 0 by omega)), jour_Open_l4, if_pos (by decide), show jour_load (n + 3) (((), 1, ()), (((S : Int), (), (), c, A, false, ()), f, ([] : M), ())) = _ from h1]
      simp only []
      rw [if_neg (by decide), show IntKind.i64.wrap (1 + 1) = 2 from rfl]
      by_cases c1 : n0 < n1
      · rw [if_pos (decide_eq_true (show (n1 : Int) > (n0 : Int) by omega)), jour_Open_l4, if_neg (by decide), if_pos c1, if_pos c1, if_pos c1]
      · rw [if_neg (by simp; omega), jour_Open_l4, if_neg (by decide), if_neg c1, if_neg c1, if_neg c1, if_pos c0, if_pos c0, if_pos c0]
    · obtain rfl : n0 = 0 := by omega
      rw [if_neg (by decide), jour_Open_l4, if_pos (by decide), show jour_load (n + 3) (((), 1, ()), (((S : Int), (), (), c, A, false, ()), f, ([] : M), ())) = _ from h1]
      simp only []
      rw [if_neg (by decide), show IntKind.i64.wrap (1 + 1) = 2 from rfl]
      by_cases c1 : 0 < n1
      · rw [if_pos (decide_eq_true (show (n1 : Int) > 0 by omega)), jour_Open_l4, if_neg (by decide), if_pos c1, if_pos c1, if_pos c1]
      · rw [if_neg (by simp; omega), jour_Open_l4, if_neg (by decide), if_neg c1, if_neg c1, if_neg c1, if_neg c0, if_neg c0, if_neg c0]
  rcases hR with ⟨h1, l0, e0, l1, e1, H0, H1⟩ | ⟨k, l, e, n', lo, eo, no, h1, H, Ho, hlt, hnq, hs⟩
  · obtain ⟨q', g1, g2, g3⟩ := fin _ _ _ l0 l1 e0 e1 0 0 H0 H1 (two l0 l1 e0 e1 0 0 H0 H1)
    exact ⟨-1, 0, q', [], g1, ⟨g3, .inl ⟨rfl, fun s => rfl, l0, e0, l1, e1, H0, H1⟩⟩, g2, h1, .nil⟩
  · have hk : k = 0 ∨ k = 1 := by omega
    rcases hk with rfl | rfl
    · obtain ⟨q', g1, g2, g3⟩ := fin _ _ _ l lo e eo n' no H Ho (two l lo e eo n' no H Ho)
      have c1 : ¬ n' < no := by omega
      have c2 : 0 < n' := by omega
      rw [if_neg c1, if_neg c1, if_neg c1, if_pos c2, if_pos c2, if_pos c2] at g1
      exact ⟨0, e, q', applS [] l, g1, ⟨g3, .inr ⟨0, l, e, n', lo, eo, no, by omega, rfl, rfl, H, Ho, hlt, Ser.last_on g3 (half_le S (by omega)).2 (by omega) (by omega) H.1, fun s => rfl⟩⟩, g2, hs, applS_nodup l .nil⟩
    · obtain ⟨q', g1, g2, g3⟩ := fin _ _ _ lo l eo e no n' Ho H (two lo l eo e no n' Ho H)
      rw [if_pos hlt, if_pos hlt, if_pos hlt] at g1
      exact ⟨1, e, q', applS [] l, g1, ⟨g3, .inr ⟨1, l, e, n', lo, eo, no, by omega, rfl, rfl, H, Ho, hlt, Ser.last_on g3 (half_le S (by omega)).2 (by omega) (by omega) H.1, fun s => rfl⟩⟩, g2, hs, applS_nodup l .nil⟩
theorem strEq_true {x y : ByteArray} : (strEq x y = true) ↔ x = y := by rw [strEq_iff]; simp
theorem equalM_sim {a b : MM} (ha : (keys a).Nodup) (hb : (keys b).Nodup) (h : equalM a b = true) : Sim a b := by
  unfold equalM at h
  rw [Bool.and_eq_true, List.all_eq_true] at h
  have hl : a.length = b.length := of_decide_eq_true h.1
  have sub : ∀ x ∈ keys a, x ∈ keys b := fun x hx => by
    obtain ⟨p, hp, rfl⟩ := List.mem_map.1 hx
    have := h.2 p hp
    rw [← mfind_in]
    split at this
    · rename_i v e
      rw [e]
      rfl
    · cases this
  have sup : ∀ x ∈ keys b, x ∈ keys a := fun x hx => by
    refine Classical.byContradiction fun hn => ?_
    have := nodup_len (l := x :: keys a) (m := keys b) (List.nodup_cons.2 ⟨hn, ha⟩) (fun y hy => by
      rcases List.mem_cons.1 hy with rfl | hy
      · exact hx
      · exact sub y hy)
    simp only [List.length_cons, keys, List.length_map] at this
    omega
  intro s
  by_cases hs : s ∈ keys a
  · obtain ⟨p, hp, rfl⟩ := List.mem_map.1 hs
    have h1 := h.2 p hp
    rw [mem_mfind ha hp]
    split at h1
    · rename_i v e
      rw [show mfind ks p.1 b = some v from e, strEq_true.1 h1]
    · cases h1
  · rw [show mfind ks s a = none from mfind_out hs, show mfind ks s b = none from mfind_out (fun e => hs (sup s e))]
end Go.Proofs.YthbbokndogjopaaGreatDoor.Pure

namespace Go.Proofs.YthbbokndogjopaaGreatDoor.Pure
open Go Go.Lib Go.Proofs.YthbbokndogjopaaGreatDoor.Cm
open Classical
set_option linter.unusedVariables false
set_option linter.unusedSimpArgs false
set_option maxRecDepth 100000
/-- The other half is as it was. -/
theorem Hf.other {S q : Nat} {f f' : M} (hd : Dk S f' q) (hq : q < 4611686018427387904) {k : Nat} (hk : k ≤ 1) {p Q : Nat} {b : List Int} {W : Nat → Prop} (o : Over f f' p Q b W) (hp : (k + 1) * (S / 2) ≤ p ∨ p + secs b.length ≤ k * (S / 2)) {l : List CallT} {e last : Nat} (H : Hf S f k l e last) : Hf S f' k l e last := by
  have hle := half_le S hk
  have h2 := H.le hk
  have hs : ∀ x : Nat, k * (S / 2) ≤ x → x < (k + 1) * (S / 2) → mfind ki (x : Int) f' = mfind ki (x : Int) f := fun x h1 h2 => o.off x (fun i h3 _ h4 => by omega)
  exact ⟨Ser.same H.1 (fun x h3 h4 => hs x h3 (by omega)), stop_same hd hq hle.2 h2 H.2 hs⟩
/-- A call behind the last one, whole. -/
theorem Hf.app {S q : Nat} {f f' : M} (hd : Dk S f' (q + 1)) (hq : q + 1 < 4611686018427387904) {k : Nat} (hk : k ≤ 1) {l : List CallT} {e last : Nat} (H : Hf S f k l e last) (hl : last ≤ q) {ch : List ChT} (h3 : ch.length ≤ 1000) (h4 : ∀ c ∈ ch, c.1.size ≤ 40 ∧ c.2.1.size ≤ 32768) (o : Over f f' e (q + 1) (bts last (q + 1, ch)) (fun _ => True)) (hr : e + secs (bts last (q + 1, ch)).length ≤ (k + 1) * (S / 2)) : Hf S f' k (l ++ [(q + 1, ch)]) (e + secs (bts last (q + 1, ch)).length) (q + 1) := by
  have hle := half_le S hk
  have h2 := H.le hk
  refine ⟨Ser.append (Ser.same H.1 (fun x h3 h4 => o.off x (fun i h5 _ h6 => by omega))) ⟨by show last < q + 1; omega, hq, h3, h4, fun j hj => o.on j hj trivial, hr, rfl, rfl⟩, stop_top hd hq (by omega)⟩
/-- A call at a half's beginning, whole. -/
theorem Hf.new {S q : Nat} {f' f : M} (hd : Dk S f' (q + 1)) (hq : q + 1 < 4611686018427387904) {k : Nat} (hk : k ≤ 1) {ch : List ChT} (h3 : ch.length ≤ 1000) (h4 : ∀ c ∈ ch, c.1.size ≤ 40 ∧ c.2.1.size ≤ 32768) (o : Over f f' (k * (S / 2)) (q + 1) (by_ 0 ch) (fun _ => True)) (hr : secs (by_ 0 ch).length ≤ S / 2) : Hf S f' k [(q + 1, ch)] (k * (S / 2) + secs (by_ 0 ch).length) (q + 1) := by
  have hle := half_le S hk
  have hk2 : k = 0 ∨ k = 1 := by omega
  have hr2 : k * (S / 2) + secs (by_ 0 ch).length ≤ (k + 1) * (S / 2) := by rcases hk2 with rfl | rfl <;> omega
  exact ⟨⟨by show 0 < q + 1; omega, hq, h3, h4, fun j hj => o.on j hj trivial, hr2, rfl, rfl⟩, stop_top hd hq (by omega)⟩
/-- What a call is: changes behind the last one, or all records at the other half's beginning. -/
inductive CallAt (S : Nat) (h e : Int) (m m' : MM) : Nat → List Int → Int → Int → Prop
  | app (l : List ChT) (h0 : 0 ≤ h) (hr : e + (secs (by_ 1 l).length : Int) ≤ (h + 1) * ((S / 2 : Nat) : Int)) (h3 : l.length ≤ 1000) (h4 : ∀ c ∈ l, c.1.size ≤ 40 ∧ c.2.1.size ≤ 32768) (hm : m' = appl m l) : CallAt S h e m m' e.toNat (by_ 1 l) h (e + (secs (by_ 1 l).length : Int))
  | new (hr : secs (by_ 0 (dump m')).length ≤ S / 2) : CallAt S h e m m' (nextH h * (S / 2)) (by_ 0 (dump m')) (nextH h : Int) ((nextH h * (S / 2) + secs (by_ 0 (dump m')).length : Nat) : Int)
theorem call_plan {S : Nat} {h e : Int} {m : MM} {l : List ChT} (hl : l.length ≤ 1000) (hb : bad m l = none) {r : Nat × List Int × Int × Int} (hp : plan S h e m l = some r) : CallAt S h e m (appl m l) r.1 r.2.1 r.2.2.1 r.2.2.2 := by
  unfold plan at hp
  split at hp
  · rename_i hc
    cases hp
    exact .app l hc.1 hc.2 hl (fun c hc => ((bad_none hb).1 c hc).2) rfl
  · unfold planA at hp
    split at hp
    · rename_i hc
      cases hp
      exact .new hc
    · cases hp
theorem call_planA {S : Nat} {h e : Int} {m : MM} {r : Nat × List Int × Int × Int} (hp : planA S h m = some r) : CallAt S h e m m r.1 r.2.1 r.2.2.1 r.2.2.2 := by
  unfold planA at hp
  split at hp
  · rename_i hc
    cases hp
    exact .new hc
  · cases hp
theorem secs_16 {S p : Nat} (hS : S ≤ 16384) {b : List Int} (h : p + secs b.length ≤ S) : secs b.length < 65536 := by omega
/-- A whole call. -/
theorem Inv.step {S : Nat} (hS : S ≤ 16384) {f f' : M} {h e : Int} {q : Nat} (hq : q + 1 < 4611686018427387904) {m m' : MM} (hm : MW m) (hm' : MW m') (I : Inv S f h e q m) {p : Nat} {b : List Int} {h' e' : Int} (C : CallAt S h e m m' p b h' e') (o : Over f f' p (q + 1) b (fun _ => True)) : Inv S f' h' e' (q + 1) m' := by
  obtain ⟨hd, I⟩ := I
  cases C with
  | app l h0 hr h3 h4 hm2 =>
    rcases I with ⟨rfl, -, -⟩ | ⟨k, ll, e1, n, lo, eo, no, k1, rfl, rfl, H, Ho, hlt, hnq, hs⟩
    · exact absurd h0 (by decide)
    have hk2 : k = 0 ∨ k = 1 := by omega
    have hle := half_le S k1
    have h2 := H.le k1
    have hr' : e1 + secs (by_ 1 l).length ≤ (k + 1) * (S / 2) := by rcases hk2 with rfl | rfl <;> omega
    have hd' := hd.over o (secs_16 hS (p := e1) (by omega))
    have hkind : by_ 1 l = bts n (q + 1, l) := by
      unfold bts kindOf
      rw [if_neg (by omega)]
    rw [Int.toNat_natCast] at o
    have Ho' := Hf.other hd' hq (k := 1 - k) (by omega) o (by rcases hk2 with rfl | rfl <;> omega) Ho
    rw [hkind] at o hr' ⊢
    have H' := Hf.app hd' hq k1 H hnq h3 h4 o hr'
    refine ⟨hd', .inr ⟨k, _, _, _, lo, eo, no, k1, rfl, by omega, H', Ho', by omega, Nat.le_refl _, ?_⟩⟩
    rw [applS_append, hm2]
    exact hs.appl l hm.2.2 (applS_nodup ll .nil)
  | new hr =>
    have hnm : nextH h = 0 ∨ nextH h = 1 := by unfold nextH; split <;> omega
    have k1 : nextH h ≤ 1 := by omega
    have hle := half_le S k1
    have hr' : nextH h * (S / 2) + secs (by_ 0 (dump m')).length ≤ (nextH h + 1) * (S / 2) := by rcases hnm with e0 | e0 <;> rw [e0] <;> omega
    have hd' := hd.over o (secs_16 hS (p := nextH h * (S / 2)) (by omega))
    have H' := Hf.new hd' hq k1 (by rw [dump_len]; have := hm'.1; omega) (dump_ok hm'.mi) o hr
    have hoth : ∃ lo eo no, Hf S f (1 - nextH h) lo eo no ∧ no ≤ q := by
      rcases I with ⟨rfl, -, l0, e0, l1, e1, H0, H1⟩ | ⟨k, ll, e1, n, lo, eo, no, k2, rfl, rfl, H, Ho, hlt, hnq, hs⟩
      · exact ⟨l1, e1, 0, H1, by omega⟩
      · have hk2 : k = 0 ∨ k = 1 := by omega
        rcases hk2 with rfl | rfl
        · exact ⟨ll, e1, n, H, hnq⟩
        · exact ⟨ll, e1, n, H, hnq⟩
    obtain ⟨lo, eo, no, Ho, hno⟩ := hoth
    have Ho' := Hf.other hd' hq (k := 1 - nextH h) (by omega) o (by rcases hnm with e0 | e0 <;> rw [e0] <;> rw [e0] at hr' <;> omega) Ho
    refine ⟨hd', .inr ⟨nextH h, _, _, _, lo, eo, no, k1, rfl, rfl, H', Ho', by omega, Nat.le_refl _, ?_⟩⟩
    exact (appl_dump hm'.2.2).symm
/-- A call that is there in part: the records are those ahead of it. -/
theorem Inv.torn {S : Nat} (hS : S ≤ 16384) {f f' : M} {h e : Int} {q : Nat} (hq : q + 1 < 4611686018427387904) {m m' : MM} (I : Inv S f h e q m) {p : Nat} {b : List Int} {h' e' : Int} (C : CallAt S h e m m' p b h' e') {W : Nat → Prop} (o : Over f f' p (q + 1) b W) (hW : ∃ i, i < secs b.length ∧ ¬ W i) : Rest S f' (q + 1) m := by
  obtain ⟨hd, I⟩ := I
  obtain ⟨w, w1, w2⟩ := hW
  cases C with
  | app l h0 hr h3 h4 hm2 =>
    rcases I with ⟨rfl, -, -⟩ | ⟨k, ll, e1, n, lo, eo, no, k1, rfl, rfl, H, Ho, hlt, hnq, hs⟩
    · exact absurd h0 (by decide)
    have hk2 : k = 0 ∨ k = 1 := by omega
    have hle := half_le S k1
    have h2 := H.le k1
    have hr' : e1 + secs (by_ 1 l).length ≤ (k + 1) * (S / 2) := by rcases hk2 with rfl | rfl <;> omega
    have hd' := hd.over o (secs_16 hS (p := e1) (by omega))
    rw [Int.toNat_natCast] at o
    have Ho' := Hf.other hd' hq (k := 1 - k) (by omega) o (by rcases hk2 with rfl | rfl <;> omega) Ho
    have H' : Hf S f' k ll e1 n := ⟨Ser.same H.1 (fun x h3 h4 => o.off x (fun i h5 _ h6 => by omega)), stop_over hd hq o (secs_16 hS (p := e1) (by omega)) hle.2 H.2 (fun _ hw0 _ => ⟨w, by
      rcases Nat.eq_zero_or_pos w with rfl | hp
      · exact absurd hw0 w2
      · exact hp, w1, w2, by omega⟩)⟩
    exact ⟨hd', .inr ⟨k, ll, e1, n, lo, eo, no, k1, H', Ho', hlt, by omega, hs⟩⟩
  | new hr =>
    have hnm : nextH h = 0 ∨ nextH h = 1 := by unfold nextH; split <;> omega
    have k1 : nextH h ≤ 1 := by omega
    have hle := half_le S k1
    have hr' : nextH h * (S / 2) + secs (by_ 0 (dump m')).length ≤ (nextH h + 1) * (S / 2) := by rcases hnm with e0 | e0 <;> rw [e0] <;> omega
    have hsb := secs_16 hS (p := nextH h * (S / 2)) (b := by_ 0 (dump m')) (by omega)
    have hd' := hd.over o hsb
    have tn : ∀ {l : List CallT} {e last : Nat}, last ≤ q → Hf S f (nextH h) l e last → ∃ l' e' last', Hf S f' (nextH h) l' e' last' ∧ last' ≤ last := fun hl H => by
      obtain ⟨l', e', last', g1, g2, g3⟩ := Ser.torn hd hq o hsb hle.2 (by omega) (fun hw0 _ => ⟨w, by
        rcases Nat.eq_zero_or_pos w with rfl | hp
        · exact absurd hw0 w2
        · exact hp, w1, w2, by omega⟩) hle.1 hl H.1 H.2
      exact ⟨l', e', last', ⟨g1, g2⟩, g3⟩
    rcases I with ⟨rfl, hs, l0, e0, l1, e1, H0, H1⟩ | ⟨k, ll, e1, n, lo, eo, no, k2, rfl, rfl, H, Ho, hlt, hnq, hs⟩
    · obtain ⟨l', e', last', g1, g2⟩ := tn (by omega) (show Hf S f (nextH (-1)) l0 e0 0 from H0)
      obtain rfl : last' = 0 := by omega
      exact ⟨hd', .inl ⟨hs, l', e', l1, e1, g1, Hf.other hd' hq (k := 1) (by omega) o (by rw [show nextH (-1) = 0 from rfl] at hr' ⊢; omega) H1⟩⟩
    · have hk2 : k = 0 ∨ k = 1 := by omega
      rcases hk2 with rfl | rfl
      · obtain ⟨l', e', last', g1, g2⟩ := tn (by omega) (show Hf S f (nextH ((0 : Nat) : Int)) lo eo no from Ho)
        have H' := Hf.other hd' hq (k := 0) (by omega) o (by rw [show nextH ((0 : Nat) : Int) = 1 from rfl] at hr' ⊢; omega) H
        exact ⟨hd', .inr ⟨0, ll, e1, n, l', e', last', by omega, H', g1, by omega, by omega, hs⟩⟩
      · obtain ⟨l', e', last', g1, g2⟩ := tn (by omega) (show Hf S f (nextH ((1 : Nat) : Int)) lo eo no from Ho)
        have H' := Hf.other hd' hq (k := 1) (by omega) o (by rw [show nextH ((1 : Nat) : Int) = 0 from rfl] at hr' ⊢; omega) H
        exact ⟨hd', .inr ⟨1, ll, e1, n, l', e', last', by omega, H', g1, by omega, by omega, hs⟩⟩
/-- What a flush leaves. -/
theorem over_wr (f : M) (p Q : Nat) (b : List Int) : Over f (mergeM f (wp p (Q : Int) b (secs b.length))) p Q b (fun _ => True) := by
  refine ⟨fun i hi _ => ?_, fun x hx => ?_⟩
  · rw [mfind_merge, mfind_wp, if_pos (by omega), show p + i - p = i by omega]
    rfl
  · rw [mfind_merge, mfind_wp]
    by_cases h : p ≤ x ∧ x < p + secs b.length
    · exact absurd (show x = p + (x - p) by omega) (hx (x - p) (by omega) trivial)
    · rw [if_neg h]
      rfl
theorem Fl.wr {S : Int} {f : M} {L : Nat} (h : Fl S f L) {p : Nat} {q : Int} {b : List Int} (hr : ((p + secs b.length : Nat) : Int) ≤ S) : Fl S (mergeM f (wp p q b (secs b.length))) (L + secs b.length) := by
  refine ⟨fun x hx => ?_, ?_⟩
  · rcases merge_keys hx with hx | hx
    · exact h.k x hx
    · have := wp_keys p q b _ x hx
      omega
  · have h1 := merge_len f (wp p q b (secs b.length))
    have h2 := h.len
    have h3 := wp_len p q b (secs b.length)
    omega
theorem opened_inv {S : Nat} : Inv S [] (-1) 0 0 [] := by
  refine ⟨fun i hi => .inl rfl, .inl ⟨rfl, fun s => rfl, [], 0 * (S / 2), [], 1 * (S / 2), ⟨⟨rfl, rfl⟩, ?_⟩, ⟨⟨rfl, rfl⟩, ?_⟩⟩⟩
  · rcases Nat.lt_or_ge (0 * (S / 2)) S with h | h
    · exact .inr ⟨h, .inl rfl⟩
    · exact .inl (by omega)
  · rcases Nat.lt_or_ge (1 * (S / 2)) S with h | h
    · exact .inr ⟨h, .inl rfl⟩
    · exact .inl (by omega)
end Go.Proofs.YthbbokndogjopaaGreatDoor.Pure

namespace Go.Proofs.YthbbokndogjopaaGreatDoor.Pure
open Go Go.Lib Go.Proofs.YthbbokndogjopaaGreatDoor.Cm
open Classical
set_option linter.unusedVariables false
set_option linter.unusedSimpArgs false
set_option maxRecDepth 100000
theorem CallAt.size {S : Nat} {h e : Int} {m m' : MM} (hm : MW m') {p : Nat} {b : List Int} {h' e' : Int} (C : CallAt S h e m m' p b h' e') : b.length < 1000000000 := by
  cases C with
  | app l h0 hr h3 h4 hm2 => exact by_size h3 h4 1
  | new hr => exact by_size (by rw [dump_len]; have := hm.1; omega) (dump_ok hm.mi) 0
/-- A call's writing, whole. -/
theorem write_done {n : Nat} (hn : 20000 < n) {S : Nat} (hS : S ≤ 16384) {c : Int} (hc : 0 ≤ c ∧ c < 100000000) {h e : Int} {q : Nat} (hq : q < 1000000) {m m' : MM} (hm : MW m) (hm' : MW m') {f : M} {L : Nat} (hf : Fl S f L) (hL : L ≤ 450000) (I : Inv S f h e q m) {p : Nat} {b : List Int} {h' e' : Int} (C : CallAt S h e m m' p b h' e') (hr : p + secs b.length ≤ S) (m0 : MM) :
    ∃ f', jour_Store_write n (((), (p : Int), b, ()), (((), (), h, e, (q : Int), ()), ((S : Int), (), (), c, 0, false, ()), m0, f, [], ())) = some ((ErrV.nil, ()), (((), (), h, e, ((q + 1 : Nat) : Int), ()), ((S : Int), (), (), c + (secs b.length : Int) + 1, 0, false, ()), m0, f', [], ())) ∧ Inv S f' h' e' (q + 1) m' ∧ Fl S f' (L + S) := by
  refine ⟨mergeM f (wp p ((q + 1 : Nat) : Int) b (secs b.length)), ?_, I.step hS (by omega) hm hm' C (over_wr f p (q + 1) b), ?_⟩
  · have := write_at hn (S := (S : Int)) (by omega) (at_ := p) b (C.size hm') (by omega) hc (q := (q : Int)) (by omega) h e m0 hf (by omega) (A := 0) (by omega) (.inl rfl)
    rw [show 0 - (secs b.length + 1) = 0 by omega] at this
    exact this
  · have := hf.wr (p := p) (q := ((q + 1 : Nat) : Int)) (b := b) (by omega)
    exact ⟨this.k, by have := this.len; omega⟩
/-- A Commit that changes something. -/
theorem commit_done {n : Nat} (hn : 60000 < n) {S : Nat} (hS : S ≤ 16384) {c : Int} (hc : 0 ≤ c ∧ c < 100000000) {h e : Int} {q : Nat} (hq : q < 1000000) {m : MM} (hm : MW m) {f : M} {L : Nat} (hf : Fl S f L) (hL : L ≤ 450000) (I : Inv S f h e q m) {l : List ChT} (hl : l.length ≤ 1000) (hb : bad m l = none) (he : equalM (appl m l) m = false) :
    (plan S h e m l = none ∧ jour_Store_Commit n (((), l, ()), (((), (), h, e, (q : Int), ()), ((S : Int), (), (), c, 0, false, ()), m, f, [], ())) = some (.inl ((ErrV.sent 118, ()), (((), (), h, e, (q : Int), ()), ((S : Int), (), (), c, 0, false, ()), m, f, [], ())))) ∨
    (∃ (h' e' c' : Int) (f' : M), jour_Store_Commit n (((), l, ()), (((), (), h, e, (q : Int), ()), ((S : Int), (), (), c, 0, false, ()), m, f, [], ())) = some (.inr (((ErrV.nil, ()), (((), (), h', e', ((q + 1 : Nat) : Int), ()), ((S : Int), (), (), c', 0, false, ()), m, f', [], appl m l, ())))) ∧ Inv S f' h' e' (q + 1) (appl m l) ∧ Fl S f' (L + S) ∧ c ≤ c' ∧ c' ≤ c + S + 1) := by
  cases hp : plan S h e m l with
  | none =>
    have := commit_via (n := n) (by omega) hS (c := c) (A := 0) (q := (q : Int)) I.at_ hm.mi (f := f) (p := []) hl hb he (er := ErrV.nil) (q2 := 0) (c2 := 0) (A2 := 0) (dn2 := false) (f2 := []) (p2 := []) (fun r n' h1 => by rw [hp] at h1; cases h1)
    rw [hp] at this
    exact .inl ⟨rfl, this⟩
  | some r =>
    have hroom := (plan_room I.at_ hp).1
    have hC := call_plan hl hb hp
    have hW := fun n' (h2 : 40000 < n') => write_done (n := n') (by omega) hS hc hq hm (hm.appl hb) hf hL I hC hroom m
    obtain ⟨f', -, g2, g3⟩ := hW 50000 (by omega)
    have hW2 : ∀ n', 40000 < n' → jour_Store_write n' (((), (r.1 : Int), r.2.1, ()), (((), (), h, e, (q : Int), ()), ((S : Int), (), (), c, 0, false, ()), m, f, [], ())) = some ((ErrV.nil, ()), (((), (), h, e, ((q + 1 : Nat) : Int), ()), ((S : Int), (), (), c + (secs r.2.1.length : Int) + 1, 0, false, ()), m, mergeM f (wp r.1 ((q + 1 : Nat) : Int) r.2.1 (secs r.2.1.length)), [], ())) := fun n' h2 => by
      have := write_at (n := n') (by omega) (S := (S : Int)) (by omega) (at_ := r.1) r.2.1 (hC.size (hm.appl hb)) (by omega) hc (q := (q : Int)) (by omega) h e m hf (by omega) (A := 0) (by omega) (.inl rfl)
      rw [show 0 - (secs r.2.1.length + 1) = 0 by omega] at this
      exact this
    have := commit_via (n := n) (by omega) hS (c := c) (A := 0) (q := (q : Int)) I.at_ hm.mi (f := f) (p := []) hl hb he (er := ErrV.nil) (fun r' n' h1 h2 => by
      rw [hp] at h1
      cases h1
      exact hW2 n' h2)
    rw [hp] at this
    refine .inr ⟨_, _, _, _, this, I.step hS (by omega) hm (hm.appl hb) hC (over_wr f r.1 (q + 1) r.2.1), ?_, by omega, by omega⟩
    have := hf.wr (p := r.1) (q := ((q + 1 : Nat) : Int)) (b := r.2.1) (by omega)
    exact ⟨this.k, by have := this.len; omega⟩
end Go.Proofs.YthbbokndogjopaaGreatDoor.Pure

namespace Go.Proofs.YthbbokndogjopaaGreatDoor.Pure
open Go Go.Lib Go.Proofs.YthbbokndogjopaaGreatDoor.Cm
open Classical
set_option linter.unusedVariables false
set_option linter.unusedSimpArgs false
set_option maxRecDepth 100000
/-- Values of so many bytes. -/
def VL (long : Nat) (m : MM) : Prop := ∀ p ∈ m, p.2.size ≤ long
theorem VL.appl {long : Nat} {m : MM} (h : VL long m) {l : List ChT} (hl : ∀ c ∈ l, c.2.1.size ≤ long) : VL long (appl m l) := fun p hp => by
  rcases appl_mem hp with hp | ⟨c, hc, rfl⟩
  · exact h p hp
  · exact hl c hc
theorem VL.sim {long : Nat} {a b : MM} (h : VL long a) (hb : (keys b).Nodup) (hs : Sim a b) : VL long b := fun p hp => by
  have := mem_mfind hb hp
  rw [← hs] at this
  exact h _ (mfind_mem this)
theorem chE_len2 {c : ChT} {v : Nat} (h1 : c.1.size ≤ 40) (h2 : c.2.1.size ≤ v) : (chE c).length ≤ 70 + v := by
  obtain ⟨c1, c2, c3⟩ := c
  have a := txt_len c1
  have b := txt_len c2
  have d0 := (enc_len 0).2
  have d1 := (enc_len 1).2
  simp only at h1 h2
  cases c3 with
  | true =>
    show ((txt c1 ++ enc 1) ++ []).length ≤ _
    simp only [List.length_append, List.length_nil]
    omega
  | false =>
    show ((txt c1 ++ enc 0) ++ txt c2).length ≤ _
    simp only [List.length_append]
    omega
/-- All records need so many sectors. -/
theorem dump_small {m : MM} (hm : MW m) {long : Nat} (h : VL long m) : (by_ 0 (dump m)).length ≤ 20 + (70 + long) * 256 := by
  have h1 := (enc_len 0).2
  have h2 := (enc_len ((dump m).length : Int)).2
  have h3 := flat_len chE (70 + long) (dump m) (fun c hc => by
    refine chE_len2 (dump_ok hm.mi c hc).1 ?_
    unfold dump at hc
    obtain ⟨k, hk, rfl⟩ := List.mem_map.1 hc
    show (getM m k).size ≤ _
    unfold getM
    cases e : mfind ks k m with
    | none => exact Nat.zero_le _
    | some v => exact h _ (mfind_mem e))
  have h4 : (dump m).length ≤ 256 := by rw [dump_len]; exact hm.1
  have h5 : (70 + long) * (dump m).length ≤ (70 + long) * 256 := Nat.mul_le_mul_left _ h4
  simp only [by_, List.length_append]
  omega
end Go.Proofs.YthbbokndogjopaaGreatDoor.Pure

namespace Go.Proofs.YthbbokndogjopaaGreatDoor.Pure
open Go Go.Lib Go.Proofs.YthbbokndogjopaaGreatDoor.Cm
open Classical
set_option linter.unusedVariables false
set_option linter.unusedSimpArgs false
set_option maxRecDepth 100000
theorem first_at {n : Nat} (hn : 200 ≤ n) : law4_first n ((), ()) = some ((true, ()), ()) := by
  obtain ⟨n, rfl⟩ : ∃ m, n = m + 120 := ⟨n - 120, by omega⟩
  kernel_rfl
theorem opened_at {n : Nat} {S : Nat} (hS : 1 ≤ S ∧ S ≤ 16384) (hn : 70000 < n) : ∃ (h e : Int) (q : Nat) (m : MM), law4_opened n (((S : Int), ()), ()) = some (.inl (((((), ()), ((), ()), ()), ()), (((), (), h, e, (q : Int), ()), ((S : Int), (), (), 0, 0, false, ()), m, [], [], ()))) ∧ Inv S [] h e q m ∧ q ≤ 0 ∧ Sim [] m ∧ (keys m).Nodup := by
  obtain ⟨n, rfl⟩ : ∃ k, n = k + 2 := ⟨n - 2, by omega⟩
  have hN : disk_New (n + 1) (((S : Int), ()), ()) = some (.inl (((((), ()), (ErrV.nil, ()), ()), ()), (((S : Int), (), (), 0, 0, false, ()), ([] : M), ([] : M), ()))) := by
    simp only [disk_New]
    rw [if_neg (by simp; omega), if_neg (by simp; omega)]
  obtain ⟨h, e, q, m, g1, g2, g3, g4, g5⟩ := open_at (n := n + 1) (by omega) hS.2 (c := 0) (A := 0) (q := 0) (by omega) (opened_inv (S := S)).rest
  refine ⟨h, e, q, m, ?_, g2, g3, g4, g5⟩
  simp only [law4_opened, hN]
  rw [if_neg (by decide), g1]
  simp only []
  rw [if_neg (by decide)]
end Go.Proofs.YthbbokndogjopaaGreatDoor.Pure

namespace Go.Proofs.YthbbokndogjopaaGreatDoor.Pure
open Go Go.Lib Go.Proofs.YthbbokndogjopaaGreatDoor.Cm
open Classical
set_option linter.unusedVariables false
set_option linter.unusedSimpArgs false
set_option maxRecDepth 100000
/-- A Commit that changes something, under an arm: it is done, or the power goes in it. -/
theorem commit_arm {n : Nat} (hn : 60000 < n) {S : Nat} (hS : S ≤ 16384) {c : Int} (hc : 0 ≤ c ∧ c < 100000000) {h e : Int} {q : Nat} (hq : q < 1000000) {m : MM} (hm : MW m) {f : M} {L : Nat} (hf : Fl S f L) (hL : L ≤ 450000) (I : Inv S f h e q m) {l : List ChT} (hl : l.length ≤ 1000) (hb : bad m l = none) (he : equalM (appl m l) m = false) {A : Nat} (hA : A < 1000) (hroom : secs (by_ 0 (dump (appl m l))).length ≤ S / 2) :
    (∃ (h' e' c' : Int) (f' : M) (A' : Nat), jour_Store_Commit n (((), l, ()), (((), (), h, e, (q : Int), ()), ((S : Int), (), (), c, (A : Int), false, ()), m, f, [], ())) = some (.inr (((ErrV.nil, ()), (((), (), h', e', ((q + 1 : Nat) : Int), ()), ((S : Int), (), (), c', (A' : Int), false, ()), m, f', [], appl m l, ())))) ∧ Inv S f' h' e' (q + 1) (appl m l) ∧ Fl S f' (L + S) ∧ c ≤ c' ∧ c' ≤ c + S + 1) ∨
    (∃ (p t : Nat) (b : List Int) (h' e' c' : Int), CallAt S h e m (appl m l) p b h' e' ∧ p + secs b.length ≤ S ∧ t ≤ secs b.length ∧ c ≤ c' ∧ c' ≤ c + S + 1 ∧ A = t + 1 ∧ jour_Store_Commit n (((), l, ()), (((), (), h, e, (q : Int), ()), ((S : Int), (), (), c, (A : Int), false, ()), m, f, [], ())) = some (.inl ((ErrV.sent 119, ()), (((), (), h, e, ((q + 1 : Nat) : Int), ()), ((S : Int), (), (), c', 0, true, ()), m, f, wp p ((q + 1 : Nat) : Int) b t, ())))) := by
  have hp : ∃ r, plan S h e m l = some r := by
    unfold plan planA
    rw [if_pos hroom]
    split
    · exact ⟨_, rfl⟩
    · exact ⟨_, rfl⟩
  obtain ⟨r, hp⟩ := hp
  have hr := (plan_room I.at_ hp).1
  have hC := call_plan hl hb hp
  have hsz := hC.size (hm.appl hb)
  by_cases hF : Fine A (secs r.2.1.length + 1)
  · refine .inl ?_
    have hW2 : ∀ n', 40000 < n' → jour_Store_write n' (((), (r.1 : Int), r.2.1, ()), (((), (), h, e, (q : Int), ()), ((S : Int), (), (), c, (A : Int), false, ()), m, f, [], ())) = some ((ErrV.nil, ()), (((), (), h, e, ((q + 1 : Nat) : Int), ()), ((S : Int), (), (), c + (secs r.2.1.length : Int) + 1, ((A - (secs r.2.1.length + 1) : Nat) : Int), false, ()), m, mergeM f (wp r.1 ((q + 1 : Nat) : Int) r.2.1 (secs r.2.1.length)), [], ())) := fun n' h2 =>
      write_at (n := n') (by omega) (S := (S : Int)) (by omega) (at_ := r.1) r.2.1 hsz (by omega) hc (q := (q : Int)) (by omega) h e m hf (by omega) (A := A) (by omega) hF
    have := commit_via (n := n) (by omega) hS (c := c) (A := (A : Int)) (q := (q : Int)) I.at_ hm.mi (f := f) (p := []) hl hb he (er := ErrV.nil) (fun r' n' h1 h2 => by
      rw [hp] at h1
      cases h1
      exact hW2 n' h2)
    rw [hp] at this
    refine ⟨_, _, _, _, _, this, I.step hS (by omega) hm (hm.appl hb) hC (over_wr f r.1 (q + 1) r.2.1), ?_, by omega, by omega⟩
    have := hf.wr (p := r.1) (q := ((q + 1 : Nat) : Int)) (b := r.2.1) (by omega)
    exact ⟨this.k, by have := this.len; omega⟩
  · refine .inr ?_
    unfold Fine at hF
    obtain ⟨t, rfl⟩ : ∃ t, A = t + 1 := ⟨A - 1, by omega⟩
    have hW2 : ∀ n', 40000 < n' → jour_Store_write n' (((), (r.1 : Int), r.2.1, ()), (((), (), h, e, (q : Int), ()), ((S : Int), (), (), c, ((t + 1 : Nat) : Int), false, ()), m, f, [], ())) = some ((ErrV.sent 119, ()), (((), (), h, e, ((q + 1 : Nat) : Int), ()), ((S : Int), (), (), c + (t : Int), 0, true, ()), m, f, wp r.1 ((q + 1 : Nat) : Int) r.2.1 t, ())) := fun n' h2 =>
      write_fell (n := n') (by omega) (S := (S : Int)) (by omega) (at_ := r.1) r.2.1 hsz (by omega) hc (q := (q : Int)) (by omega) h e m f (by omega)
    have := commit_via (n := n) (by omega) hS (c := c) (A := ((t + 1 : Nat) : Int)) (q := (q : Int)) I.at_ hm.mi (f := f) (p := []) hl hb he (er := ErrV.sent 119) (fun r' n' h1 h2 => by
      rw [hp] at h1
      cases h1
      exact hW2 n' h2)
    rw [hp] at this
    exact ⟨r.1, t, r.2.1, r.2.2.1, r.2.2.2, _, hC, hr, by omega, by omega, by omega, rfl, this⟩
/-! ### the power goes -/
/-- Picked: the k-th of them. -/
def pick (picks : List Int) (k : Nat) : Bool := decide (k < picks.length) && (bitsOp .and .i64 (picks.getD k 0) 1 == 1)
def cstep (p : M) (ks picks : List Int) (f : M) (k : Nat) : M := if pick picks k = true then mset ki (ks.getD k 0) ((mfind ki (ks.getD k 0) p).getD []) f else f
def cgo (f p : M) (ks picks : List Int) (k : Nat) : M := (List.range k).foldl (cstep p ks picks) f
theorem cgo_succ (f p : M) (ks picks : List Int) (k : Nat) : cgo f p ks picks (k + 1) = cstep p ks picks (cgo f p ks picks k) k := by
  unfold cgo
  rw [List.range_succ, List.foldl_append]
  rfl
def keysZ (p : M) : List Int := sortZ (p.map Prod.fst)
theorem keysZ_len (p : M) : (keysZ p).length = p.length := by unfold keysZ; rw [(sortZ_perm _).length_eq, List.length_map]
theorem cgo_find (f p : M) (ks picks : List Int) (x : Int) : ∀ k, mfind ki x (cgo f p ks picks k) = if ∃ j, j < k ∧ ks.getD j 0 = x ∧ pick picks j = true then some ((mfind ki x p).getD []) else mfind ki x f
  | 0 => by
    rw [if_neg (by rintro ⟨j, h, -⟩; omega)]
    rfl
  | k + 1 => by
    have ih := cgo_find f p ks picks x k
    rw [cgo_succ]
    unfold cstep
    by_cases hp : pick picks k = true
    · rw [if_pos hp, mfind_msetI]
      by_cases hx : x = ks.getD k 0
      · rw [if_pos hx, if_pos ⟨k, by omega, hx.symm, hp⟩, hx]
      · rw [if_neg hx, ih]
        by_cases h : ∃ j, j < k ∧ ks.getD j 0 = x ∧ pick picks j = true
        · obtain ⟨j, h1, h2⟩ := h
          rw [if_pos ⟨j, h1, h2⟩, if_pos ⟨j, by omega, h2⟩]
        · rw [if_neg h, if_neg (by
            rintro ⟨j, h1, h2, h3⟩
            by_cases e : j = k
            · subst e; exact hx h2.symm
            · exact h ⟨j, by omega, h2, h3⟩)]
    · rw [if_neg hp, ih]
      by_cases h : ∃ j, j < k ∧ ks.getD j 0 = x ∧ pick picks j = true
      · obtain ⟨j, h1, h2⟩ := h
        rw [if_pos ⟨j, h1, h2⟩, if_pos ⟨j, by omega, h2⟩]
      · rw [if_neg h, if_neg (by
          rintro ⟨j, h1, h2, h3⟩
          by_cases e : j = k
          · subst e; exact hp h3
          · exact h ⟨j, by omega, h2, h3⟩)]
theorem cgo_fl {S : Int} {f p : M} {L : Nat} {picks ks : List Int} (hf : Fl S f L) (hk : ∀ x ∈ ks, 0 ≤ x ∧ x < S) : ∀ k, k ≤ ks.length → Fl S (cgo f p ks picks k) (L + k)
  | 0, _ => hf
  | k + 1, h => by
    have ih := cgo_fl (p := p) (picks := picks) hf hk k (by omega)
    rw [cgo_succ]
    unfold cstep
    split
    · refine ⟨fun x hx => ?_, ?_⟩
      · rcases mset_keys _ _ _ x hx with hx | hx
        · rw [hx]
          exact hk _ (getD_mem _ _ (by omega) _)
        · exact ih.k x hx
      · have := mset_len (ks.getD k 0) ((mfind ki (ks.getD k 0) p).getD []) (cgo f p ks picks k)
        have := ih.len
        omega
    · exact ⟨ih.k, by have := ih.len; omega⟩
theorem sortedZ_at {n : Nat} {S : Int} {p : M} {L : Nat} (hp : Fl S p L) (hS : S ≤ 16384) (hL : L ≤ 1000000) : slices_Sorted_53 n (((), ()), (((), ()), p, ())) = some (((), ()), (((), ()), p, keysZ p, ())) := by
  show sortedSem _ _ _ _ _ _ = _
  have := hp.len
  unfold sortedSem
  rw [if_pos (show wfKeys (V := List Int) p = true from wf_of (fun x hx => by have := hp.k x hx; omega)), if_pos (show List.length (α := Int × List Int) p ≤ 1099511627776 by omega)]
  rfl
theorem crash_at {n : Nat} (hn : 20000 < n) {S c A : Int} {d : Bool} {f p : M} {L : Nat} {picks : List Int} (hp : Fl S p L) (hS : S ≤ 16384) (hL : L ≤ 16384) :
    disk_Disk_Crash n (((), picks, ()), ((S, (), (), c, A, d, ()), f, p, ())) = some (((), ()), ((S, (), (), c, 0, false, ()), cgo f p (keysZ p) picks p.length, [], ())) := by
  obtain ⟨n, rfl⟩ : ∃ k, n = k + 2 := ⟨n - 2, by omega⟩
  have hpl := hp.len
  have hkl := keysZ_len p
  have hK : maps_Keys_map_int_byte_int_byte (n + 1) (((), ()), (p, ())) = some (((), ()), (p, ((), ()), ())) := rfl
  simp only [disk_Disk_Crash, hK, sortedZ_at hp hS (by omega)]
  have h := for_all (F := disk_Disk_Crash_l1 (n + 1)) (len := (keysZ p).length) (fun i => (((), picks, (), ((keysZ p).length : Int), (i : Int), ()), ((S, (), (), c, A, d, ()), cgo f p (keysZ p) picks i, p, keysZ p, ()))) (r := some (.inl (((), ()), ((S, (), (), c, A, d, ()), cgo f p (keysZ p) picks (keysZ p).length, p, ())))) (fun i k hi => by
    simp only [disk_Disk_Crash_l1]
    rw [if_pos (decide_eq_true (show (i : Int) < ((keysZ p).length : Int) by omega)), if_pos (show (0 : Int) ≤ (i : Int) ∧ (i : Int) < ((keysZ p).length : Int) by omega), cgo_succ]
    simp only [rdT_nat, w64_up i (by omega)]
    unfold cstep pick
    by_cases h1 : i < picks.length
    · rw [if_pos (decide_eq_true (show (i : Int) < (picks.length : Int) by omega)), if_pos (show (0 : Int) ≤ (i : Int) ∧ (i : Int) < (picks.length : Int) by omega), decide_eq_true h1, Bool.true_and]
      by_cases h2 : (bitsOp .and .i64 (picks.getD i 0) 1 == 1) = true
      · rw [if_pos h2]
        exact (if_pos h2).trans rfl
      · rw [if_neg h2]
        exact (if_neg h2).trans rfl
    · rw [if_neg (by simpa using h1), decide_eq_false h1, Bool.false_and, if_neg (by decide)]) (fun k => by
    simp only [disk_Disk_Crash_l1]
    rw [if_neg (by simp)]) (k := n + 1) (by omega)
  rw [show disk_Disk_Crash_l1 (n + 1) (n + 1) (((), picks, (), ((keysZ p).length : Int), 0, ()), ((S, (), (), c, A, d, ()), f, p, keysZ p, ())) = _ from h, hkl]
/-- What a crash keeps of a call's sectors. -/
def kept (a : Nat) (q : Int) (b : List Int) (t : Nat) (picks : List Int) (i : Nat) : Prop := ∃ j, j < t ∧ (keysZ (wp a q b t)).getD j 0 = ((a + i : Nat) : Int) ∧ pick picks j = true
theorem wp_keys_len (a : Nat) (q : Int) (b : List Int) : ∀ t, (wp a q b t).length = t
  | 0 => rfl
  | t + 1 => by
    have ih := wp_keys_len a q b t
    have key : ∀ (m : M) (k : Int) (v : List Int), (∀ x ∈ m.map Prod.fst, x < k) → (mset ki k v m).length = m.length + 1 := by
      intro m k v
      induction m with
      | nil => intro _; rfl
      | cons p m ih2 =>
        intro h
        unfold mset
        rw [if_neg (fun e => by
          have h1 := h p.1 (by simp)
          have h2 : k = p.1 := (kiq _ _).1 e
          omega)]
        simp only [List.length_cons]
        rw [ih2 (fun x hx => h x (by simp only [List.map_cons, List.mem_cons]; exact .inr hx))]
    show (mset ki _ _ (wp a q b t)).length = _
    rw [key _ _ _ (fun x hx => by have := wp_keys a q b t x hx; omega), ih]
theorem crash_over {f : M} {a Q : Nat} {b : List Int} {t : Nat} (ht : t ≤ secs b.length) (picks : List Int) : Over f (cgo f (wp a (Q : Int) b t) (keysZ (wp a (Q : Int) b t)) picks (wp a (Q : Int) b t).length) a Q b (kept a (Q : Int) b t picks) := by
  have hmem : ∀ j, j < t → (keysZ (wp a (Q : Int) b t)).getD j 0 ∈ (wp a (Q : Int) b t).map Prod.fst := fun j hj =>
    (sortZ_perm _).mem_iff.1 (getD_mem _ _ (by show j < (keysZ (wp a (Q : Int) b t)).length; rw [keysZ_len, wp_keys_len]; exact hj) _)
  rw [wp_keys_len]
  refine ⟨fun i hi hw => ?_, fun x hx => ?_⟩
  · obtain ⟨j, h1, h2, h3⟩ := hw
    rw [cgo_find, if_pos ⟨j, h1, h2, h3⟩, mfind_wp]
    have := wp_keys a (Q : Int) b t _ (hmem j h1)
    rw [h2] at this
    rw [if_pos (by omega), show a + i - a = i by omega]
    rfl
  · rw [cgo_find, if_neg]
    rintro ⟨j, h1, h2, h3⟩
    have := wp_keys a (Q : Int) b t _ (hmem j h1)
    rw [h2] at this
    exact hx (x - a) (by omega) ⟨j, h1, by rw [h2]; omega, h3⟩ (by omega)
theorem cgo_nil (f : M) (picks : List Int) : cgo f [] (keysZ []) picks 0 = f := rfl
theorem wp_fl {S : Int} {a : Nat} {q : Int} {b : List Int} {t : Nat} (h : ((a + t : Nat) : Int) ≤ S) : Fl S (wp a q b t) t :=
  ⟨fun x hx => by have := wp_keys a q b t x hx; omega, by rw [wp_keys_len]; exact Nat.le_refl _⟩
/-- Behind a crash in a call the records are those ahead of it, or those behind it. -/
theorem crash_rest {S : Nat} (hS : S ≤ 16384) {f : M} {h e : Int} {q : Nat} (hq : q + 1 < 4611686018427387904) {m m' : MM} (hm : MW m) (hm' : MW m') (I : Inv S f h e q m) {p : Nat} {b : List Int} {h' e' : Int} (C : CallAt S h e m m' p b h' e') {t : Nat} (ht : t ≤ secs b.length) (picks : List Int) :
    ∃ mx, (mx = m ∨ mx = m') ∧ Rest S (cgo f (wp p ((q + 1 : Nat) : Int) b t) (keysZ (wp p ((q + 1 : Nat) : Int) b t)) picks (wp p ((q + 1 : Nat) : Int) b t).length) (q + 1) mx := by
  have o := crash_over (f := f) (a := p) (Q := q + 1) ht picks
  by_cases hW : ∃ i, i < secs b.length ∧ ¬ kept p ((q + 1 : Nat) : Int) b t picks i
  · exact ⟨m, .inl rfl, I.torn hS hq C o hW⟩
  · refine ⟨m', .inr rfl, (I.step hS hq hm hm' C ⟨fun i hi _ => o.on i hi ?_, fun x hx => o.off x (fun i hi _ => hx i hi trivial)⟩).rest⟩
    exact Classical.byContradiction fun hn => hW ⟨i, hi, hn⟩
end Go.Proofs.YthbbokndogjopaaGreatDoor.Pure

namespace Go.Proofs.YthbbokndogjopaaGreatDoor.Pure
open Go Go.Lib Go.Proofs.YthbbokndogjopaaGreatDoor.Cm
open Classical
set_option linter.unusedVariables false
set_option linter.unusedSimpArgs false
set_option maxRecDepth 100000
theorem Number_at {n : Nat} (hn : 1 ≤ n) (x : Int) {m : Int} (hm : 0 < m) (hm2 : m < 1000000000) : world_Number n ((x, m, ()), ()) = some ((num x m, ()), ()) := by
  obtain ⟨n, rfl⟩ : ∃ m, n = m + 1 := ⟨n - 1, by omega⟩
  have := tmod_b x m hm
  simp only [world_Number]
  rw [if_neg (show ¬ (m = 0) by omega)]
  unfold num
  by_cases h : Int.tmod x m < 0
  · rw [if_pos (decide_eq_true h), if_pos h, w64_id (by omega) (by omega)]
  · rw [if_neg (by simpa using h), if_neg h]
theorem WNum_at {n : Nat} (hn : 1 ≤ n) {x : Int} (h0 : 0 ≤ x) (h1 : x ≤ 1000000) : world_Num n ((x, ()), ()) = some ((itoaS x, ()), ()) := by
  obtain ⟨n, rfl⟩ : ∃ m, n = m + 1 := ⟨n - 1, by omega⟩
  have e : strconv_Itoa n ((x, ()), ()) = some ((itoaS x, ()), ()) := by
    show itoaSem _ = _
    unfold itoaSem
    rw [if_pos (show -9223372036854775808 ≤ x ∧ x ≤ 9223372036854775807 from ⟨by omega, by omega⟩)]
  simp only [world_Num, e]
theorem Down_at {n : Nat} (hn : 1 ≤ n) (S c A : Int) (d : Bool) (f p : M) : disk_Disk_Down n (((), ()), ((S, (), (), c, A, d, ()), f, p, ())) = some ((d, ()), ((S, (), (), c, A, d, ()), f, p, ())) := by
  obtain ⟨n, rfl⟩ : ∃ m, n = m + 1 := ⟨n - 1, by omega⟩
  rfl
theorem Arm_at {n : Nat} (hn : 1 ≤ n) (S c A : Int) (d : Bool) (f p : M) {x : Int} (hx : 0 ≤ x) : disk_Disk_Arm n (((), x, ()), ((S, (), (), c, A, d, ()), f, p, ())) = some (((), ()), ((S, (), (), c, x, d, ()), f, p, ())) := by
  obtain ⟨n, rfl⟩ : ∃ m, n = m + 1 := ⟨n - 1, by omega⟩
  simp only [disk_Disk_Arm]
  rw [show mx x 0 = x by unfold mx; split <;> omega]
theorem Keys_at {n : Nat} (hn : 2 < n) (hh e q : Int) (D : Int × Unit × Unit × Int × Int × Bool × Unit) {m : MM} (hm : MW m) (f p : M) : jour_Store_Keys n (((), ()), (((), (), hh, e, q, ()), D, m, f, p, ())) = some (((), ()), (((), (), hh, e, q, ()), D, m, f, p, sortS (keysM m), ())) := by
  obtain ⟨n, rfl⟩ : ∃ m, n = m + 2 := ⟨n - 2, by omega⟩
  obtain ⟨d1, d2, d3, d4, d5, d6, d7⟩ := D
  have hK : maps_Keys_map_string_string_string_string (n + 1) (((), ()), (m, ())) = some (((), ()), (m, ((), ()), ())) := rfl
  simp only [jour_Store_Keys, hK, sorted_at hm.mi]
/-! ### what is written -/
/-- A letter, so many times. -/
def rep (c : UInt8) (j : Nat) : ByteArray := ⟨(List.replicate j c).toArray⟩
theorem rep_size (c : UInt8) (j : Nat) : (rep c j).size = j := by
  show (List.toArray _).size = j
  simp
theorem rep_succ (c : UInt8) (j : Nat) : rep c j ++ rep c 1 = rep c (j + 1) := by
  refine str_ext ?_
  rw [ByteArray.data_append, Array.toList_append]
  simp [rep, List.replicate_succ']
theorem rep_first (c : UInt8) {j : Nat} (hj : 1 ≤ j) : (rep c j).extract 0 1 = rep c 1 := by
  obtain ⟨j, rfl⟩ : ∃ i, j = i + 1 := ⟨j - 1, by omega⟩
  refine str_ext ?_
  rw [ByteArray.data_extract]
  simp [rep, List.replicate_succ]
theorem l6_at {n : Nat} (c : UInt8) (N : Int) (i : Nat) (hi : i < 1000) (l : List ChT) : ∀ (d j k : Nat), 10 * i ≤ j + d → d < k → j ≤ 20000 →
    ∃ j', j ≤ j' ∧ j' ≤ j + d ∧ law4_changes_l6 n k ((N, rep c 1, (), (i : Int), rep c j, ()), (l, ())) = some (.inl ((N, rep c 1, (), (i : Int), rep c j', ()), (l, ()))) := by
  intro d
  induction d with
  | zero =>
    intro j k h hk hj
    obtain ⟨k, rfl⟩ : ∃ m, k = m + 1 := ⟨k - 1, by omega⟩
    refine ⟨j, Nat.le_refl _, by omega, ?_⟩
    rw [law4_changes_l6]
    simp only []
    rw [w64_id (x := 10 * (i : Int)) (by omega) (by omega), if_neg (by rw [rep_size]; simp; omega)]
  | succ d ih =>
    intro j k h hk hj
    obtain ⟨k, rfl⟩ : ∃ m, k = m + 1 := ⟨k - 1, by omega⟩
    rw [law4_changes_l6]
    simp only []
    rw [w64_id (x := 10 * (i : Int)) (by omega) (by omega)]
    by_cases hlt : j < 10 * i
    · obtain ⟨j', h1, h2, h3⟩ := ih (j + 1) k (by omega) (by omega) (by omega)
      refine ⟨j', by omega, by omega, ?_⟩
      rw [if_pos (by rw [rep_size]; simp; omega), if_pos (by rw [rep_size, rep_size]; omega), rep_succ]
      exact h3
    · refine ⟨j, Nat.le_refl _, by omega, ?_⟩
      rw [if_neg (by rw [rep_size]; simp; omega)]
def kn (i : Nat) : ByteArray := (⟨#[107]⟩ : ByteArray) ++ itoaS (i : Int)
theorem rows20 : (List.range 21).all (fun i => decide ((itoaS (i : Int)).size ≤ 3) && (List.range i).all fun j => !strEq (kn j) (kn i)) = true := by kernel_rfl
theorem kn_size {i : Nat} (hi : i < 21) : 1 ≤ (kn i).size ∧ (kn i).size ≤ 4 := by
  have := all_range rows20 hi
  simp only [Bool.and_eq_true, decide_eq_true_eq] at this
  unfold kn
  rw [ByteArray.size_append]
  have h1 : (⟨#[107]⟩ : ByteArray).size = 1 := rfl
  omega
theorem kn_ne {i j : Nat} (hi : i < 21) (hj : j < i) : kn j ≠ kn i := by
  have := all_range rows20 hi
  simp only [Bool.and_eq_true] at this
  have := all_range this.2 hj
  intro e
  rw [e, strEq_true.2 rfl] at this
  cases this
/-- Records of so many keys, of a letter. -/
structure Row (c : UInt8) (N : Nat) (r : MM) : Prop where
  len : r.length = N
  ks : keys r = (List.range N).map kn
  vs : ∀ p ∈ r, ∃ j, 1 ≤ j ∧ j ≤ 200 ∧ p.2 = rep c j
abbrev toCh (p : ByteArray × ByteArray) : ChT := (p.1, p.2, false)
theorem changes_at {n : Nat} (hn : 1000 < n) (c : UInt8) (N : Nat) (hN : N ≤ 20) : ∃ r : MM, Row c N r ∧ law4_changes n (((N : Int), rep c 1, ()), ()) = some (((), ()), (r.map toCh, ())) := by
  obtain ⟨n, rfl⟩ : ∃ m, n = m + 1 := ⟨n - 1, by omega⟩
  have main : ∀ (d i k : Nat) (r : MM), i + d = N → d < k → Row c i r → ∃ r', Row c N r' ∧ law4_changes_l3 n k (((N : Int), rep c 1, (), (i : Int), ()), (r.map toCh, ())) = some (.inl (((), ()), (r'.map toCh, ()))) := by
    intro d
    induction d with
    | zero =>
      intro i k r hi hk R
      obtain ⟨k, rfl⟩ : ∃ m, k = m + 1 := ⟨k - 1, by omega⟩
      obtain rfl : i = N := by omega
      refine ⟨r, R, ?_⟩
      rw [law4_changes_l3, if_neg (by simp)]
    | succ d ih =>
      intro i k r hi hk R
      obtain ⟨k, rfl⟩ : ∃ m, k = m + 1 := ⟨k - 1, by omega⟩
      obtain ⟨j, j1, j2, hj⟩ := l6_at (n := n) c (N : Int) i (by omega) (r.map toCh) 199 1 n (by omega) (by omega) (by omega)
      have hks := kn_size (i := i) (by omega)
      have R' : Row c (i + 1) (r ++ [(kn i, rep c j)]) := by
        refine ⟨by rw [List.length_append, R.len]; rfl, ?_, fun p hp => ?_⟩
        · rw [keys, List.map_append, List.range_succ, List.map_append]
          show keys r ++ _ = _
          rw [R.ks]
          rfl
        · rcases List.mem_append.1 hp with hp | hp
          · exact R.vs p hp
          · rw [List.mem_singleton] at hp
            exact ⟨j, j1, by omega, by rw [hp]⟩
      obtain ⟨r', h1, h2⟩ := ih (i + 1) k (r ++ [(kn i, rep c j)]) (by omega) (by omega) R'
      refine ⟨r', h1, ?_⟩
      have hrl := R.len
      rw [law4_changes_l3, if_pos (decide_eq_true (show (i : Int) < (N : Int) by omega)), hj]
      simp only []
      rw [WNum_at (by omega) (by omega) (by omega)]
      simp only []
      have hsz : (⟨#[107]⟩ : ByteArray).size + (itoaS (i : Int)).size ≤ 9223372036854775807 := by
        have := hks.2
        unfold kn at this
        rw [ByteArray.size_append] at this
        omega
      rw [if_pos hsz, if_pos (by simp only [List.length_map, List.length_cons, List.length_nil]; omega), w64_up i (by omega)]
      rw [List.map_append] at h2
      exact h2
  obtain ⟨r, h1, h2⟩ := main N 0 n [] (by omega) (by omega) ⟨rfl, rfl, fun p hp => by cases hp⟩
  refine ⟨r, h1, ?_⟩
  simp only [law4_changes]
  rw [show law4_changes_l3 n n (((N : Int), rep c 1, (), 0, ()), ([], ())) = _ from h2]
theorem Row.nodup {c : UInt8} {N : Nat} (hN : N ≤ 20) {r : MM} (R : Row c N r) : (keys r).Nodup := by
  rw [R.ks]
  have : ∀ N, N ≤ 20 → ((List.range N).map kn).Nodup := by
    intro N
    induction N with
    | zero => intro _; exact .nil
    | succ N ih =>
      intro h
      rw [List.range_succ, List.map_append, List.nodup_append]
      refine ⟨ih (by omega), by simp, fun a ha b hb e => ?_⟩
      obtain ⟨j, hj, rfl⟩ := List.mem_map.1 ha
      rw [List.map_singleton, List.mem_singleton] at hb
      rw [hb] at e
      exact kn_ne (by omega) (List.mem_range.1 hj) e
  exact this N hN
theorem Row.ok {c : UInt8} {N : Nat} (hN : N ≤ 20) {r : MM} (R : Row c N r) : ∀ p ∈ r, 1 ≤ p.1.size ∧ p.1.size ≤ 40 ∧ p.2.size ≤ 200 := fun p hp => by
  have hk : p.1 ∈ keys r := List.mem_map.2 ⟨p, hp, rfl⟩
  rw [R.ks] at hk
  obtain ⟨i, hi, e⟩ := List.mem_map.1 hk
  have := kn_size (i := i) (by have := List.mem_range.1 hi; omega)
  obtain ⟨j, h1, h2, h3⟩ := R.vs p hp
  rw [← e, h3, rep_size]
  omega
/-- What such a Commit makes of nothing. -/
theorem Row.sim {c : UInt8} {N : Nat} (hN : N ≤ 20) {r : MM} (R : Row c N r) {m : MM} (hm : (keys m).Nodup) (hs : Sim m []) : Sim (appl m (r.map toCh)) r := by
  have h1 := Sim.appl (r.map toCh) hm (show (keys ([] : MM)).Nodup from .nil) hs
  have h2 := appl_row r (a := []) (R.nodup hN) .nil
  rw [List.append_nil] at h2
  exact h1.trans h2
theorem sim_len {a b : MM} (ha : (keys a).Nodup) (hb : (keys b).Nodup) (h : Sim a b) : a.length = b.length := by
  rw [← recs_len a, ← recs_len b, recs_sim ha hb h]
theorem Row.mw {c : UInt8} {N : Nat} (hN : N ≤ 20) {r : MM} (R : Row c N r) : MW r := ⟨by rw [R.len]; omega, fun p hp => by have := R.ok hN p hp; omega, R.nodup hN⟩
theorem Row.bad {c : UInt8} {N : Nat} (hN : N ≤ 20) {r : MM} (R : Row c N r) {m : MM} (hm : (keys m).Nodup) (hs : Sim m []) : bad m (r.map toCh) = none := by
  have hl := sim_len (appl_nodup hm _) (R.nodup hN) (R.sim hN hm hs)
  have o1 : (r.map toCh).all okK = true := by
    rw [List.all_eq_true]
    intro x hx
    obtain ⟨p, hp, rfl⟩ := List.mem_map.1 hx
    have := R.ok hN p hp
    unfold okK
    rw [decide_eq_true (show 1 ≤ (toCh p).1.size from this.1), decide_eq_true (show (toCh p).1.size ≤ 40 from this.2.1)]
    rfl
  have o2 : (r.map toCh).all okV = true := by
    rw [List.all_eq_true]
    intro x hx
    obtain ⟨p, hp, rfl⟩ := List.mem_map.1 hx
    have := R.ok hN p hp
    exact decide_eq_true (show (toCh p).2.1.size ≤ 32768 by show p.2.size ≤ _; omega)
  have := R.len
  unfold Pure.bad
  rw [if_neg (by rw [o1]; decide), if_neg (by rw [o2]; decide), if_neg (by omega)]
abbrev SS : Int := ((2000 : Nat) : Int)
/-- A Commit on a store that has nothing, under an arm, and a crash behind it. -/
theorem round {n : Nat} (hn : 70000 < n) {c : UInt8} {N : Nat} (hN : 1 ≤ N ∧ N ≤ 20) {r : MM} (R : Row c N r) {m : MM} (hm : MW m) (hs : Sim m []) {h e cc : Int} {q : Nat} {f : M} {L : Nat} (hf : Fl SS f L) (hL : L ≤ 10000) (hcc : 0 ≤ cc ∧ cc ≤ 10000) (hq : q ≤ 10) (I : Inv 2000 f h e q m) {A : Nat} (hA : A < 1000) (picks : List Int) :
    ∃ (er : ErrV) (dn : Bool) (c' : Int) (f2 : M) (mx : MM), errNil er = !dn ∧ Rest 2000 f2 (q + 1) mx ∧ MW mx ∧ (Sim mx r ∨ (dn = true ∧ Sim mx [])) ∧ Fl SS f2 (L + 2000) ∧ 0 ≤ c' ∧ c' ≤ cc + 2001 ∧
      ((∃ (h' e' q' A' : Int) (f' p' : M), jour_Store_Commit n (((), r.map toCh, ()), (((), (), h, e, (q : Int), ()), (SS, (), (), cc, (A : Int), false, ()), m, f, [], ())) = some (.inl ((er, ()), (((), (), h', e', q', ()), (SS, (), (), c', A', dn, ()), m, f', p', ()))) ∧ disk_Disk_Crash n (((), picks, ()), ((SS, (), (), c', A', dn, ()), f', p', ())) = some (((), ()), ((SS, (), (), c', 0, false, ()), f2, [], ()))) ∨
       (∃ (h' e' q' A' : Int) (f' p' : M) (m' : MM), jour_Store_Commit n (((), r.map toCh, ()), (((), (), h, e, (q : Int), ()), (SS, (), (), cc, (A : Int), false, ()), m, f, [], ())) = some (.inr (((er, ()), (((), (), h', e', q', ()), (SS, (), (), c', A', dn, ()), m, f', p', m', ())))) ∧ disk_Disk_Crash n (((), picks, ()), ((SS, (), (), c', A', dn, ()), f', p', ())) = some (((), ()), ((SS, (), (), c', 0, false, ()), f2, [], ())))) := by
  have hb := R.bad hN.2 hm.2.2 hs
  have hsim := R.sim hN.2 hm.2.2 hs
  have hmw' := hm.appl hb
  have hl := sim_len hmw'.2.2 (R.nodup hN.2) hsim
  have hlm : m.length = 0 := sim_len (b := []) hm.2.2 .nil hs
  have hRl := R.len
  have he : equalM (appl m (r.map toCh)) m = false := by
    unfold equalM
    rw [decide_eq_false (show ¬ (appl m (r.map toCh)).length = m.length by omega)]
    rfl
  have hvl : VL 200 (appl m (r.map toCh)) := VL.sim (a := r) (fun p hp => (R.ok hN.2 p hp).2.2) hmw'.2.2 hsim.symm
  have hroom : secs (by_ 0 (dump (appl m (r.map toCh)))).length ≤ 2000 / 2 := by
    have := dump_small hmw' hvl
    unfold secs
    omega
  rcases commit_arm (n := n) (by omega) (S := 2000) (by omega) (c := cc) ⟨hcc.1, by omega⟩ (by omega) hm hf (by omega) I (l := r.map toCh) (by rw [List.length_map]; omega) hb he hA hroom with ⟨h', e', c', f', A', g1, g2, g3, g4, g5⟩ | ⟨p, t, b, h', e', c', g1, g2, g3, g4, g5, -, g7⟩
  · refine ⟨ErrV.nil, false, c', f', _, rfl, g2.rest, hmw', .inl hsim, g3, by omega, by omega, .inr ⟨_, _, _, _, _, _, _, g1, ?_⟩⟩
    exact crash_at (n := n) (by omega) (S := SS) (c := c') (A := (A' : Int)) (d := false) (f := f') (p := []) (L := 0) (picks := picks) ⟨(fun x hx => by cases hx), Nat.le_refl _⟩ (by decide) (by omega)
  · obtain ⟨mx, hmx, hR⟩ := crash_rest (by omega) (by omega) hm hmw' I g1 g3 picks
    have hpl : Fl SS (wp p ((q + 1 : Nat) : Int) b t) t := wp_fl (by show ((p + t : Nat) : Int) ≤ ((2000 : Nat) : Int); omega)
    have hcr := crash_at (n := n) (by omega) (S := SS) (c := c') (A := 0) (d := true) (f := f) (picks := picks) hpl (by decide) (by omega)
    have hfl := cgo_fl (p := wp p ((q + 1 : Nat) : Int) b t) (picks := picks) (ks := keysZ (wp p ((q + 1 : Nat) : Int) b t)) hf (fun x hx => hpl.k x ((sortZ_perm _).mem_iff.1 hx)) (wp p ((q + 1 : Nat) : Int) b t).length (by rw [keysZ_len]; exact Nat.le_refl _)
    have hwl := wp_keys_len p ((q + 1 : Nat) : Int) b t
    refine ⟨ErrV.sent 119, true, c', _, mx, rfl, hR, ?_, ?_, ⟨hfl.k, by have := hfl.len; omega⟩, by omega, by omega, .inl ⟨_, _, _, _, _, _, g7, hcr⟩⟩
    · rcases hmx with rfl | rfl
      · exact hm
      · exact hmw'
    · rcases hmx with rfl | rfl
      · exact .inr ⟨rfl, hs⟩
      · exact .inl hsim
theorem l36_at {n : Nat} (hn : 1000 < n) {m : MM} (hm : MW m) (hv : ∀ s v, mfind ks s m = some v → ∃ j, 1 ≤ j ∧ v = rep 121 j) (hh e q : Int) (D : Int × Unit × Unit × Int × Int × Bool × Unit) (f p : M) : law4_JourWhole_l36 n n (((), (), 0, ()), (((), (), hh, e, q, ()), sortS (keysM m), D, m, f, p, ())) = some (.inl ((), ())) := by
  obtain ⟨n, rfl⟩ : ∃ m, n = m + 1 := ⟨n - 1, by omega⟩
  obtain ⟨d1, d2, d3, d4, d5, d6, d7⟩ := D
  have hsl : (sortS (keysM m)).length = m.length := by rw [(sortS_perm _).length_eq, List.length_map]
  have hml := hm.1
  have h := for_all (F := law4_JourWhole_l36 (n + 1)) (len := (sortS (keysM m)).length) (fun i => (((), (), (i : Int), ()), (((), (), hh, e, q, ()), sortS (keysM m), (d1, d2, d3, d4, d5, d6, d7), m, f, p, ()))) (r := some (.inl ((), ()))) (fun i k hi => by
    have hmem : (sortS (keysM m)).getD i (Ty.dflt .str) ∈ keys m := (sortS_perm _).mem_iff.1 (getD_mem _ _ hi _)
    rw [law4_JourWhole_l36, if_pos (decide_eq_true (show (i : Int) < ((sortS (keysM m)).length : Int) by omega)), if_pos (show 0 ≤ (i : Int) ∧ (i : Int) < ((sortS (keysM m)).length : Int) from ⟨by omega, by omega⟩), rdT_nat]
    generalize (sortS (keysM m)).getD i (Ty.dflt .str) = s at hmem
    have hsome := mfind_in.2 hmem
    cases hf : mfind ks s m with
    | none => rw [show mfind (keyEq (.str : Ty)) s m = none from hf] at hsome; cases hsome
    | some v =>
      obtain ⟨j, h1, h2⟩ := hv s v hf
      subst h2
      have hG : jour_Store_Get (n + 1) (((), s, ()), (((), (), hh, e, q, ()), (d1, d2, d3, d4, d5, d6, d7), m, f, p, ())) = some ((((rep 121 j, ()), (true, ()), ()), ()), (((), (), hh, e, q, ()), (d1, d2, d3, d4, d5, d6, d7), m, f, p, ())) := by
        show some (((((mfind ks s m).getD (⟨#[]⟩ : ByteArray), ()), ((mfind ks s m).isSome, ()), ()), ()), (((), (), hh, e, q, ()), (d1, d2, d3, d4, d5, d6, d7), m, f, p, ())) = _
        rw [hf]
        rfl
      have hsz := rep_size 121 j
      rw [hG]
      simp only []
      rw [if_neg (show ¬ decide (((rep 121 j).size : Int) < 1) = true by simp; omega), if_pos (show 0 ≤ (1 : Int) ∧ (1 : Int) ≤ ((rep 121 j).size : Int) from ⟨by omega, by omega⟩), show (0 : Int).toNat = 0 from rfl, show (1 : Int).toNat = 1 from rfl, rep_first 121 h1, if_neg (by rw [show (⟨#[121]⟩ : ByteArray) = rep 121 1 from rfl, strEq_true.2 rfl]; decide), w64_up i (by omega)]) (fun k => by
    rw [law4_JourWhole_l36, if_neg (by simp)]) (k := n + 1) (by omega)
  exact h
theorem vals {c : UInt8} {N : Nat} {r : MM} (R : Row c N r) {m : MM} (h : Sim m r) : ∀ s v, mfind ks s m = some v → ∃ j, 1 ≤ j ∧ v = rep c j := fun s v hf => by
  rw [h s] at hf
  obtain ⟨j, h1, -, h2⟩ := R.vs _ (mfind_mem hf)
  exact ⟨j, h1, h2⟩
/-- Behind a Commit and a crash: what is opened. -/
theorem reopened {n : Nat} (hn : 70000 < n) {f2 : M} {q : Nat} (hq : q ≤ 100) {mx : MM} (hR : Rest 2000 f2 q mx) (hm : MW mx) (c : Int) : ∃ (h e : Int) (q' : Nat) (m : MM), jour_Open n (((), ()), ((SS, (), (), c, 0, false, ()), f2, [], ())) = some (.inl (((((), ()), (ErrV.nil, ()), ()), ()), ((SS, (), (), c, 0, false, ()), f2, [], ((), (), h, e, (q' : Int), ()), m, ()))) ∧ Inv 2000 f2 h e q' m ∧ q' ≤ q ∧ Sim mx m ∧ MW m := by
  obtain ⟨h, e, q', m, o1, o2, o3, o4, o5⟩ := open_at (n := n) (by omega) (S := 2000) (by omega) (c := c) (A := 0) (by omega) hR
  exact ⟨h, e, q', m, o1, o2, o3, o4, hm.sim o5 o4⟩
theorem c35_at {n : Nat} (N : Nat) (dn : Bool) (l : SL) (h : l.length = N ∨ (dn = true ∧ l.length = 0)) (st : Unit × Unit × Int × Int × Int × Unit) (D : Int × Unit × Unit × Int × Int × Bool × Unit) (m : MM) (f p : M) : law4_JourWhole_c35 n (((N : Int), dn, (), (), ()), (st, l, D, m, f, p, ())) = some (.inl (((), (), ()), (st, l, D, m, f, p, ()))) := by
  obtain ⟨s1, s2, s3, s4, s5, s6⟩ := st
  obtain ⟨d1, d2, d3, d4, d5, d6, d7⟩ := D
  simp only [law4_JourWhole_c35]
  by_cases hl : l.length = N
  · rw [if_neg (by simp [hl])]
  · obtain ⟨h1, h2⟩ := h.resolve_left hl
    rw [if_pos (bne_iff_ne.2 (show (l.length : Int) ≠ (N : Int) by omega)), h1, if_neg (by decide), if_neg (by rw [h2]; decide)]
theorem c23_at {n : Nat} (N K : Nat) (dn b5 : Bool) (x2 x4 : Int) (x3 : List Int) (h : K = N ∨ (dn = true ∧ K = 0)) (ch : List ChT) (st : Unit × Unit × Int × Int × Int × Unit) (D : Int × Unit × Unit × Int × Int × Bool × Unit) (m : MM) (f p : M) : law4_JourWhole_c23 n (((N : Int), x2, x3, x4, b5, (), (), dn, (), (K : Int), ()), (D, ch, st, f, p, m, ())) = some (.inl (((N : Int), x2, x3, x4, b5, (), (), (), (K : Int), ()), (D, ch, st, f, p, m, ()))) := by
  obtain ⟨s1, s2, s3, s4, s5, s6⟩ := st
  obtain ⟨d1, d2, d3, d4, d5, d6, d7⟩ := D
  simp only [law4_JourWhole_c23]
  by_cases hl : K = N
  · rw [if_neg (by simp [hl])]
  · obtain ⟨h1, h2⟩ := h.resolve_left hl
    rw [if_pos (bne_iff_ne.2 (show (K : Int) ≠ (N : Int) by omega)), h1, if_neg (by decide), if_neg (by rw [h2]; decide)]
theorem sorted_len (m : MM) : (sortS (keysM m)).length = m.length := by rw [(sortS_perm _).length_eq, List.length_map]
theorem whole {n : Nat} (hn : 90000 < n) (a arm : Int) (picks : List Int) (b : Int) : law4_JourWhole (n + 1) ⟨⟨a, arm, picks, b, ⟨⟩⟩, ⟨⟩⟩ = some ((true, ()), ()) := by
  obtain ⟨v, v1, v2⟩ := num_nat a (m := 20) (by omega)
  obtain ⟨w, w1, w2⟩ := num_nat b (m := 20) (by omega)
  obtain ⟨A, a1, a2⟩ := num_nat arm (m := 40) (by omega)
  obtain ⟨B, b1, b2⟩ := num_nat (IntKind.i64.wrap (Int.tdiv arm 40)) (m := 40) (by omega)
  have e1 : IntKind.i64.wrap ((v : Int) + 1) = ((v + 1 : Nat) : Int) := w64_up v (by omega)
  have e2 : IntKind.i64.wrap ((w : Int) + 1) = ((w + 1 : Nat) : Int) := w64_up w (by omega)
  have e3 : IntKind.i64.wrap ((A : Int) + 1) = ((A + 1 : Nat) : Int) := w64_up A (by omega)
  have e4 : IntKind.i64.wrap ((B : Int) + 1) = ((B + 1 : Nat) : Int) := w64_up B (by omega)
  rw [law4_JourWhole, first_at (by omega)]
  simp only []
  rw [if_neg (by decide), Number_at (by omega) _ (by omega) (by omega)]
  simp only []
  rw [Number_at (by omega) _ (by omega) (by omega), v2, w2, e1]
  simp only []
  rw [e2]
  by_cases h60 : (picks.length : Int) > 60
  · rw [if_pos (decide_eq_true h60)]
  rw [if_neg (by simpa using h60), if_neg (by decide)]
  obtain ⟨h, e, q, m, g1, g2, g3, g4, g5⟩ := opened_at (n := n) (S := 2000) ⟨by omega, by omega⟩ (by omega)
  have hmw : MW m := MW.nil.sim g5 g4
  obtain ⟨r1, R1, k1⟩ := changes_at (n := n) (by omega) 120 (v + 1) (by omega)
  obtain ⟨r2, R2, k2⟩ := changes_at (n := n) (by omega) 121 (w + 1) (by omega)
  rw [show law4_opened n ((2000, ()), ()) = _ from g1]
  simp only []
  rw [show law4_changes n ((((v + 1 : Nat) : Int), (⟨#[120]⟩ : ByteArray), ()), ()) = _ from k1]
  simp only []
  rw [show law4_changes n ((((w + 1 : Nat) : Int), (⟨#[121]⟩ : ByteArray), ()), ()) = _ from k2]
  simp only []
  rw [Number_at (by omega) _ (by omega) (by omega), a2]
  simp only []
  rw [e3, Arm_at (by omega) _ _ _ _ _ _ (by omega)]
  simp only []
  obtain ⟨er, dn, c', f2, mx, t1, t2, t3, t4, t5, t6, t7, tC⟩ := round (n := n) (by omega) ⟨by omega, by omega⟩ R1 hmw g4.symm (cc := 0) (f := []) (L := 0) ⟨(fun x hx => by cases hx), Nat.le_refl _⟩ (by omega) ⟨by omega, by omega⟩ (by omega) g2 (A := A + 1) (by omega) picks
  obtain ⟨h2, e2', q2, m2, o1, o2, o3, o4, o5⟩ := reopened (n := n) (by omega) (by omega) t2 t3 c'
  have hKe := Keys_at (n := n) (by omega) h2 e2' (q2 : Int) (SS, (), (), c', 0, false, ()) o5 f2 []
  have hlen2 : (sortS (keysM m2)).length = v + 1 ∨ (dn = true ∧ (sortS (keysM m2)).length = 0) := by
    rw [sorted_len, ← sim_len t3.2.2 o5.2.2 o4]
    rcases t4 with t4 | ⟨t4, t4'⟩
    · exact .inl (by rw [sim_len t3.2.2 (R1.nodup (by omega)) t4, R1.len])
    · exact .inr ⟨t4, sim_len (b := []) t3.2.2 .nil t4'⟩
  have h23 := c23_at (n := n) (v + 1) _ dn true arm ((w + 1 : Nat) : Int) picks hlen2 (r2.map toCh) ((), (), h2, e2', (q2 : Int), ()) (SS, (), (), c', 0, false, ()) m2 f2 []
  have hers : (!((!(errNil er)) == dn)) = false := by rw [t1]; cases dn <;> rfl
  have second : ∀ (hs : Sim m2 []), ∃ (er : ErrV) (dn : Bool) (c3 : Int) (f3 : M) (h3 e3 : Int) (q3 : Nat) (m3 : MM), errNil er = !dn ∧ jour_Open n (((), ()), ((SS, (), (), c3, 0, false, ()), f3, [], ())) = some (.inl (((((), ()), (ErrV.nil, ()), ()), ()), ((SS, (), (), c3, 0, false, ()), f3, [], ((), (), h3, e3, (q3 : Int), ()), m3, ()))) ∧ MW m3 ∧ ((sortS (keysM m3)).length = w + 1 ∨ (dn = true ∧ (sortS (keysM m3)).length = 0)) ∧ (∀ s v, mfind ks s m3 = some v → ∃ j, 1 ≤ j ∧ v = rep 121 j) ∧
      ((∃ (h' e' q' A' : Int) (f' p' : M), jour_Store_Commit n (((), r2.map toCh, ()), (((), (), h2, e2', (q2 : Int), ()), (SS, (), (), c', ((B + 1 : Nat) : Int), false, ()), m2, f2, [], ())) = some (.inl ((er, ()), (((), (), h', e', q', ()), (SS, (), (), c3, A', dn, ()), m2, f', p', ()))) ∧ disk_Disk_Crash n (((), picks, ()), ((SS, (), (), c3, A', dn, ()), f', p', ())) = some (((), ()), ((SS, (), (), c3, 0, false, ()), f3, [], ()))) ∨
       (∃ (h' e' q' A' : Int) (f' p' : M) (m' : MM), jour_Store_Commit n (((), r2.map toCh, ()), (((), (), h2, e2', (q2 : Int), ()), (SS, (), (), c', ((B + 1 : Nat) : Int), false, ()), m2, f2, [], ())) = some (.inr (((er, ()), (((), (), h', e', q', ()), (SS, (), (), c3, A', dn, ()), m2, f', p', m', ())))) ∧ disk_Disk_Crash n (((), picks, ()), ((SS, (), (), c3, A', dn, ()), f', p', ())) = some (((), ()), ((SS, (), (), c3, 0, false, ()), f3, [], ())))) := by
    intro hs
    obtain ⟨er, dn, c3, f3, my, y1, y2, y3, y4, y5, y6, y7, yC⟩ := round (n := n) (by omega) ⟨by omega, by omega⟩ R2 o5 hs (cc := c') t5 (by omega) ⟨by omega, by omega⟩ (by omega) o2 (A := B + 1) (by omega) picks
    obtain ⟨h3, e3, q3, m3, z1, z2, z3, z4, z5⟩ := reopened (n := n) (by omega) (by omega) y2 y3 c3
    refine ⟨er, dn, c3, f3, h3, e3, q3, m3, y1, z1, z5, ?_, ?_, yC⟩
    · rw [sorted_len, ← sim_len y3.2.2 z5.2.2 z4]
      rcases y4 with y4 | ⟨y4, y4'⟩
      · exact .inl (by rw [sim_len y3.2.2 (R2.nodup (by omega)) y4, R2.len])
      · exact .inr ⟨y4, sim_len (b := []) y3.2.2 .nil y4'⟩
    · rcases y4 with y4 | ⟨y4, y4'⟩
      · exact vals R2 (z4.symm.trans y4)
      · intro s v hv
        rw [← z4 s, y4' s] at hv
        cases hv
  have hs2 : ¬ (sortS (keysM m2)).length = v + 1 → Sim m2 [] := by
    intro hno
    rcases t4 with t4 | ⟨-, t4⟩
    · exact absurd (by rw [sorted_len, ← sim_len t3.2.2 o5.2.2 o4, sim_len t3.2.2 (R1.nodup (by omega)) t4, R1.len]) hno
    · exact o4.symm.trans t4
  rcases tC with ⟨h', e', q', A', f', p', u1, u2⟩ | ⟨h', e', q', A', f', p', m', u1, u2⟩
  all_goals
    rw [show jour_Store_Commit n (((), r1.map toCh, ()), (((), (), h, e, (q : Int), ()), (((2000 : Nat) : Int), (), (), 0, ((A + 1 : Nat) : Int), false, ()), m, [], [], ())) = _ from u1]
    simp only []
    rw [Down_at (by omega)]
    simp only []
    rw [u2]
    simp only []
    rw [o1]
    simp only []
    rw [if_neg (by decide), if_neg (by rw [hers]; decide), hKe]
    simp only []
    rw [h23]
    simp only []
    by_cases hk : (sortS (keysM m2)).length = v + 1
    · rw [if_pos (by rw [hk]; simp)]
    · rw [if_neg (show ¬ (((sortS (keysM m2)).length : Int) == ((v + 1 : Nat) : Int)) = true from fun e => hk (by have := eq_of_beq e; omega)), Number_at (by omega) _ (by omega) (by omega), b2]
      simp only []
      rw [e4, Arm_at (by omega) _ _ _ _ _ _ (by omega)]
      simp only []
      obtain ⟨er2, dn2, c3, f3, h3, e3, q3, m3, z0, z1, z2, z3, z4, zC⟩ := second (hs2 hk)
      have hKe3 := Keys_at (n := n) (by omega) h3 e3 (q3 : Int) (SS, (), (), c3, 0, false, ()) z2 f3 []
      have hers2 : (!((!(errNil er2)) == dn2)) = false := by rw [z0]; cases dn2 <;> rfl
      have h35 := c35_at (n := n) (w + 1) dn2 _ z3 ((), (), h3, e3, (q3 : Int), ()) (SS, (), (), c3, 0, false, ()) m3 f3 []
      have h36 := l36_at (n := n) (by omega) z2 z4 h3 e3 (q3 : Int) (SS, (), (), c3, 0, false, ()) f3 []
      rcases zC with ⟨h4, e5, q4, A4, f4, p4, x1, x2⟩ | ⟨h4, e5, q4, A4, f4, p4, m4, x1, x2⟩
      all_goals
        rw [x1]
        simp only []
        rw [Down_at (by omega)]
        simp only []
        rw [x2]
        simp only []
        rw [z1]
        simp only []
        rw [if_neg (by decide), if_neg (by rw [hers2]; decide), hKe3]
        simp only []
        rw [h35]
        simp only []
        rw [h36]
theorem JourWhole : law4_JourWhole.Pure := by
  intro a arm picks b _ _ _ _
  exact ⟨99999 + 1, whole (by omega) a arm picks b⟩
end Go.Proofs.YthbbokndogjopaaGreatDoor.Pure
