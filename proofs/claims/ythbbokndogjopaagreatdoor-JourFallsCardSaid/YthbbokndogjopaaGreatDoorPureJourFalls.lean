/- JourFalls, in plain words: whenever the power goes, the records are those ahead of the call that was under way, or those behind it. By this session. -/
import Derived.Test.YthbbokndogjopaaGreatDoorJourFallsM
import Derived.KernelRfl
namespace Go.Proofs.YthbbokndogjopaaGreatDoor.Pure
open Go Go.Lib Go.Proofs.YthbbokndogjopaaGreatDoor.Cm
open Classical
set_option linter.unusedVariables false
set_option linter.unusedSimpArgs false
set_option maxRecDepth 100000
abbrev SL := List ByteArray
abbrev keys {V : Type} (m : List (ByteArray × V)) : SL := m.map Prod.fst
theorem kq (a b : ByteArray) : (keyEq (.str : Ty) a b = true) ↔ a = b := keyS_true a b
theorem mfind_in {V : Type} {s : ByteArray} : ∀ {m : List (ByteArray × V)}, (mfind (keyEq (.str : Ty)) s m).isSome = true ↔ s ∈ keys m
  | [] => by simp [mfind, keys]
  | p :: m => by
    unfold mfind
    by_cases h : s = p.1
    · rw [if_pos ((kq _ _).2 h)]
      simp [keys, h]
    · rw [if_neg (fun e => h ((kq _ _).1 e)), mfind_in]
      simp [keys, h]
theorem mfind_out {V : Type} {s : ByteArray} {m : List (ByteArray × V)} (h : s ∉ keys m) : mfind (keyEq (.str : Ty)) s m = none := by
  cases e : mfind (keyEq (.str : Ty)) s m with
  | none => rfl
  | some v => exact absurd (mfind_in.1 (by rw [e]; rfl)) h
theorem mfind_mset {V : Type} (k : ByteArray) (v : V) (s : ByteArray) : ∀ m : List (ByteArray × V), mfind (keyEq (.str : Ty)) s (mset (keyEq (.str : Ty)) k v m) = if s = k then some v else mfind (keyEq (.str : Ty)) s m
  | [] => by
    unfold mset mfind
    by_cases h : s = k
    · rw [if_pos ((kq _ _).2 h), if_pos h]
    · rw [if_neg (fun e => h ((kq _ _).1 e)), if_neg h]; rfl
  | p :: m => by
    unfold mset
    by_cases hk : k = p.1
    · rw [if_pos ((kq _ _).2 hk)]
      unfold mfind
      by_cases h : s = k
      · rw [if_pos ((kq _ _).2 h), if_pos h]
      · rw [if_neg (fun e => h ((kq _ _).1 e)), if_neg h, if_neg (fun e => h (((kq _ _).1 e).trans hk.symm))]
    · rw [if_neg (fun e => hk ((kq _ _).1 e))]
      unfold mfind
      by_cases h : s = p.1
      · rw [if_pos ((kq _ _).2 h), if_pos ((kq _ _).2 h), if_neg (fun e => hk (e.symm.trans h))]
      · rw [if_neg (fun e => h ((kq _ _).1 e)), if_neg (fun e => h ((kq _ _).1 e)), mfind_mset k v s m]
theorem mset_new {V : Type} {k : ByteArray} {v : V} : ∀ {m : List (ByteArray × V)}, k ∉ keys m → mset (keyEq (.str : Ty)) k v m = m ++ [(k, v)]
  | [], _ => rfl
  | p :: m, h => by
    simp only [keys, List.map_cons, List.mem_cons, not_or] at h
    unfold mset
    rw [if_neg (fun e => h.1 ((kq _ _).1 e)), mset_new h.2]
    rfl
theorem nodup_len : ∀ {l m : SL}, l.Nodup → (∀ x ∈ l, x ∈ m) → l.length ≤ m.length
  | [], m, _, _ => Nat.zero_le _
  | x :: l, m, h, hs => by
    rw [List.nodup_cons] at h
    obtain ⟨a, b, rfl⟩ := List.append_of_mem (hs x (.head _))
    have : l.length ≤ (a ++ b).length := nodup_len h.2 (fun y hy => by
      have := hs y (.tail _ hy)
      rw [List.mem_append, List.mem_cons] at this
      rw [List.mem_append]
      rcases this with h1 | rfl | h1
      · exact .inl h1
      · exact absurd hy h.1
      · exact .inr h1)
    simp only [List.length_append, List.length_cons] at this ⊢
    omega
theorem mset_keys2 (k : ByteArray) (v : ByteArray) : ∀ m : MM, keys (mset ks k v m) = if k ∈ keys m then keys m else keys m ++ [k]
  | [] => by simp [mset, keys]
  | p :: m => by
    unfold mset
    by_cases h : k = p.1
    · rw [if_pos ((kq _ _).2 h), if_pos (by simp [keys, h])]
      simp [keys, h]
    · rw [if_neg (fun e => h ((kq _ _).1 e))]
      have ih := mset_keys2 k v m
      show p.1 :: keys (mset ks k v m) = _
      rw [ih]
      by_cases h2 : k ∈ keys m
      · rw [if_pos h2, if_pos (by simp only [keys, List.map_cons, List.mem_cons]; exact .inr h2)]
        rfl
      · rw [if_neg h2, if_neg (by simp only [keys, List.map_cons, List.mem_cons]; exact fun e => e.elim h h2)]
        rfl
theorem mset_nodup {k v : ByteArray} {m : MM} (h : (keys m).Nodup) : (keys (mset ks k v m)).Nodup := by
  rw [mset_keys2]
  split
  · exact h
  · rename_i h2
    rw [List.nodup_append]
    exact ⟨h, by simp, fun a ha b hb e => by simp at hb; subst hb; subst e; exact h2 ha⟩
theorem mdel_sub (k : ByteArray) : ∀ m : MM, (mdel ks k m).Sublist m
  | [] => .slnil
  | p :: m => by
    unfold mdel
    split
    · exact .cons _ (.refl _)
    · exact .cons_cons _ (mdel_sub k m)
theorem mdel_nodup {k : ByteArray} {m : MM} (h : (keys m).Nodup) : (keys (mdel ks k m)).Nodup := ((mdel_sub k m).map Prod.fst).nodup h
theorem mfind_mdel {k s : ByteArray} : ∀ {m : MM}, (keys m).Nodup → mfind ks s (mdel ks k m) = if s = k then none else mfind ks s m
  | [], _ => by simp [mdel, mfind]
  | p :: m, h => by
    have h : (p.1 :: keys m).Nodup := h
    rw [List.nodup_cons] at h
    unfold mdel
    by_cases hk : k = p.1
    · rw [if_pos ((kq _ _).2 hk)]
      by_cases hs : s = k
      · rw [if_pos hs]
        exact mfind_out (by rw [hs, hk]; exact h.1)
      · rw [if_neg hs]
        conv => rhs; unfold mfind
        rw [if_neg (fun e => hs (((kq _ _).1 e).trans hk.symm))]
    · rw [if_neg (fun e => hk ((kq _ _).1 e))]
      unfold mfind
      by_cases hs : s = p.1
      · rw [if_pos ((kq _ _).2 hs), if_pos ((kq _ _).2 hs), if_neg (fun e => hk (e.symm.trans hs))]
      · rw [if_neg (fun e => hs ((kq _ _).1 e)), if_neg (fun e => hs ((kq _ _).1 e)), mfind_mdel h.2]
theorem appl_nodup {m : MM} (h : (keys m).Nodup) : ∀ l : List ChT, (keys (appl m l)).Nodup := by
  intro l
  induction l generalizing m with
  | nil => exact h
  | cons c l ih =>
    show (keys (appl (apC m c) l)).Nodup
    refine ih ?_
    unfold apC
    split
    · exact mdel_nodup h
    · exact mset_nodup h
/-! ### order -/
theorem strLt_eq (x y : ByteArray) : strLt x y = decide (x.data.toList < y.data.toList) := less_eq _ _
theorem str_ext {x y : ByteArray} (h : x.data.toList = y.data.toList) : x = y := by
  cases x; cases y
  congr 1
  exact Array.toList_inj.1 h
theorem strLt_irr (x : ByteArray) : strLt x x = false := by
  rw [strLt_eq]
  exact decide_eq_false (List.lt_irrefl _)
theorem strLt_asym {x y : ByteArray} (h : strLt x y = true) : strLt y x = false := by
  rw [strLt_eq] at h ⊢
  exact decide_eq_false (fun h2 => List.lt_irrefl _ (List.lt_trans (of_decide_eq_true h) h2))
theorem strLt_trans {x y z : ByteArray} (h : strLt x y = true) (h2 : strLt y z = true) : strLt x z = true := by
  rw [strLt_eq] at h h2 ⊢
  exact decide_eq_true (List.lt_trans (of_decide_eq_true h) (of_decide_eq_true h2))
/-- Names that rise. -/
def Rising (l : SL) : Prop := l.Pairwise (fun a b => strLt a b = true)
theorem sortS_rising {l : SL} (h : l.Nodup) : Rising (sortS l) := by
  have h1 := (sortS_spec l).2
  have h2 : (sortS l).Nodup := (sortS_perm l).nodup_iff.2 h
  rw [List.pairwise_map] at h1
  refine List.Pairwise.imp₂ (R := fun a b : ByteArray => a.data.toList ≤ b.data.toList) (S := fun a b => a ≠ b) (fun a b hab hne => ?_) h1 h2
  rw [strLt_eq]
  refine decide_eq_true ?_
  rcases List.le_iff_lt_or_eq.1 hab with h | h
  · exact h
  · exact absurd (str_ext h) hne
theorem rising_nodup {l : SL} (h : Rising l) : l.Nodup := List.Pairwise.imp (fun {a b} hab e => by rw [e, strLt_irr] at hab; cases hab) h
/-- The names that rise and are the same are the same row. -/
theorem rising_sort {l : SL} (h : Rising l) : sortS l = l := by
  have h1 := (sortS_spec l).2
  have hp := sortS_perm l
  have h2 : (sortS l).Pairwise (fun a b => a.data.toList ≤ b.data.toList) := List.pairwise_map.1 h1
  have h3 : l.Pairwise (fun a b => a.data.toList ≤ b.data.toList) := List.Pairwise.imp (fun {a b} hab => List.le_of_lt (by rw [strLt_eq] at hab; exact of_decide_eq_true hab)) h
  exact List.Perm.eq_of_pairwise (le := fun a b : ByteArray => a.data.toList ≤ b.data.toList) (fun a b _ _ ha hb => str_ext (List.le_antisymm ha hb)) h2 h3 hp
/-- Rising rows of the same names are the same row. -/
theorem rising_eq {a b : SL} (ha : Rising a) (hb : Rising b) (h : ∀ x, x ∈ a ↔ x ∈ b) : a = b := by
  have le : ∀ {l : SL}, Rising l → l.Pairwise (fun a b => a.data.toList ≤ b.data.toList) := fun h => List.Pairwise.imp (fun {a b} hab => List.le_of_lt (by rw [strLt_eq] at hab; exact of_decide_eq_true hab)) h
  have hp : a.Perm b := (List.perm_ext_iff_of_nodup (rising_nodup ha) (rising_nodup hb)).2 h
  exact List.Perm.eq_of_pairwise (le := fun a b : ByteArray => a.data.toList ≤ b.data.toList) (fun a b _ _ ha hb => str_ext (List.le_antisymm ha hb)) (le ha) (le hb) hp
theorem SameTexts_at {n : Nat} (l m : SL) (hn : 10 + l.length ≤ n) (hl : l.length < 1000000000) : ref_SameTexts n ((l, m, ()), ()) = some ((decide (l = m), ()), ()) := by
  obtain ⟨n, rfl⟩ : ∃ k, n = k + 1 := ⟨n - 1, by omega⟩
  simp only [ref_SameTexts]
  by_cases hlen : l.length = m.length
  · rw [if_neg (by simp [hlen])]
    have a := for_inv (F := ref_SameTexts_l4 n) (len := l.length) (st := fun i => ((l, m, (i : Int), ()), ())) (fun i => l.take i = m.take i) (fun r => (r = some (.inl ((), ())) ∧ l = m) ∨ (r = some (.inr (.inl ((false, ()), ()))) ∧ l ≠ m)) (by simp) (fun i k hi hI => by
      simp only [ref_SameTexts_l4]
      rw [if_pos (decide_eq_true (show (i : Int) < (l.length : Int) by omega)), if_pos (show 0 ≤ (i : Int) ∧ (i : Int) < (l.length : Int) from ⟨by omega, by omega⟩), if_pos (show 0 ≤ (i : Int) ∧ (i : Int) < (m.length : Int) from ⟨by omega, by omega⟩)]
      rw [rdT_nat, rdT_nat, strEq_iff]
      by_cases he : l.getD i (Ty.dflt .str) = m.getD i (Ty.dflt .str)
      · refine .inl ⟨take_eq_succ hI hi (by omega) _ he, ?_⟩
        rw [decide_eq_true he, if_neg (by decide), w64_up i (by omega)]
      · refine .inr (.inr ⟨?_, ne_of_getD _ he⟩)
        rw [decide_eq_false he, if_pos (by decide)]) (fun k hI => by
      rw [List.take_length, hlen, List.take_length] at hI
      refine .inl ⟨?_, hI⟩
      simp only [ref_SameTexts_l4]
      rw [if_neg (by simp)]) n (by omega)
    rw [show (0 : Int) = ((0 : Nat) : Int) from rfl]
    rcases a with ⟨a, h⟩ | ⟨a, h⟩
    · rw [a, decide_eq_true h]
    · rw [a, decide_eq_false h]
  · rw [if_pos (by simp; omega), decide_eq_false (fun h => hlen (by rw [h]))]
end Go.Proofs.YthbbokndogjopaaGreatDoor.Pure

namespace Go.Proofs.YthbbokndogjopaaGreatDoor.Pure
open Go Go.Lib Go.Proofs.YthbbokndogjopaaGreatDoor.Cm
open Classical
set_option linter.unusedVariables false
set_option linter.unusedSimpArgs false
set_option maxRecDepth 100000
/-! ### records -/
def Sim (a b : MM) : Prop := ∀ s, mfind ks s a = mfind ks s b
theorem Sim.symm {a b : MM} (h : Sim a b) : Sim b a := fun s => (h s).symm
theorem Sim.trans {a b c : MM} (h : Sim a b) (h2 : Sim b c) : Sim a c := fun s => (h s).trans (h2 s)
theorem apC_nodup {m : MM} (h : (keys m).Nodup) (c : ChT) : (keys (apC m c)).Nodup := by
  unfold apC
  split
  · exact mdel_nodup h
  · exact mset_nodup h
theorem mfind_apC {m : MM} (h : (keys m).Nodup) (c : ChT) (s : ByteArray) : mfind ks s (apC m c) = if s = c.1 then (if c.2.2 = true then none else some c.2.1) else mfind ks s m := by
  unfold apC
  split
  · exact mfind_mdel h
  · exact mfind_mset c.1 c.2.1 s m
theorem Sim.apC {a b : MM} (ha : (keys a).Nodup) (hb : (keys b).Nodup) (h : Sim a b) (c : ChT) : Sim (apC a c) (apC b c) := fun s => by
  rw [mfind_apC ha, mfind_apC hb, h s]
theorem Sim.appl : ∀ (l : List ChT) {a b : MM}, (keys a).Nodup → (keys b).Nodup → Sim a b → Sim (appl a l) (appl b l)
  | [], _, _, _, _, h => h
  | c :: l, _, _, ha, hb, h => Sim.appl l (apC_nodup ha c) (apC_nodup hb c) (h.apC ha hb c)
theorem applS_nodup : ∀ (l : List CallT) {m : MM}, (keys m).Nodup → (keys (applS m l)).Nodup
  | [], _, h => h
  | x :: l, _, h => applS_nodup l (appl_nodup h x.2)
theorem applS_append (m : MM) (l : List CallT) (x : CallT) : applS m (l ++ [x]) = appl (applS m l) x.2 := by
  unfold applS
  rw [List.foldl_append]
  rfl
theorem mfind_row (f : ByteArray → ByteArray) (s : ByteArray) : ∀ l : SL, mfind ks s (l.map fun k => (k, f k)) = if s ∈ l then some (f s) else none
  | [] => by rw [if_neg (by simp)]; rfl
  | k :: l => by
    simp only [List.map_cons]
    unfold mfind
    by_cases h : s = k
    · rw [if_pos ((kq _ _).2 h), if_pos (by rw [h]; exact .head _), h]
    · rw [if_neg (fun e => h ((kq _ _).1 e)), mfind_row f s l]
      simp [h]
/-- Records, their keys rising. -/
def recs (m : MM) : MM := (sortS (keysM m)).map fun k => (k, getM m k)
theorem dump_recs (m : MM) : dump m = (recs m).map fun p => ((p.1, p.2, false) : ChT) := by
  unfold dump recs
  rw [List.map_map]
  rfl
theorem recs_keys (m : MM) : keys (recs m) = sortS (keysM m) := by
  unfold recs keys
  rw [List.map_map]
  show (sortS (keysM m)).map (fun k => k) = _
  simp
theorem recs_len (m : MM) : (recs m).length = m.length := by
  unfold recs
  rw [List.length_map, (sortS_perm _).length_eq, List.length_map]
theorem mfind_recs (m : MM) (s : ByteArray) : mfind ks s (recs m) = mfind ks s m := by
  unfold recs
  rw [mfind_row]
  by_cases h : s ∈ keys m
  · rw [if_pos ((sortS_perm _).mem_iff.2 h)]
    have := mfind_in.2 h
    unfold getM
    cases e : mfind ks s m with
    | none => rw [show mfind (keyEq (.str : Ty)) s m = none from e] at this; cases this
    | some v => rfl
  · rw [if_neg (fun e => h ((sortS_perm _).mem_iff.1 e)), show mfind ks s m = none from mfind_out h]
theorem recs_rising {m : MM} (h : (keys m).Nodup) : Rising (keys (recs m)) := by
  rw [recs_keys]
  exact sortS_rising h
/-- Rising records of the same lookups are the same row. -/
theorem row_eq : ∀ {a b : MM}, (keys a).Nodup → keys a = keys b → Sim a b → a = b
  | [], [], _, _, _ => rfl
  | [], q :: b, _, h, _ => by cases h
  | p :: a, [], _, h, _ => by cases h
  | p :: a, q :: b, hn, h, hs => by
    have h1 : p.1 = q.1 := by simp [keys] at h; exact h.1
    have h2 : keys a = keys b := by simp [keys] at h ⊢; exact h.2
    have hn2 : p.1 ∉ keys a ∧ (keys a).Nodup := List.nodup_cons.1 hn
    have hv : p.2 = q.2 := by
      have := hs p.1
      unfold mfind at this
      rw [if_pos ((kq _ _).2 rfl), if_pos ((kq _ _).2 h1)] at this
      injection this
    have hpq : p = q := by
      obtain ⟨p1, p2⟩ := p
      obtain ⟨q1, q2⟩ := q
      simp only at h1 hv
      rw [h1, hv]
    have hrec := row_eq hn2.2 h2 (fun s => by
      have := hs s
      unfold mfind at this
      by_cases e : s = p.1
      · rw [e, show mfind ks p.1 a = none from mfind_out hn2.1, show mfind ks p.1 b = none from mfind_out (by rw [← h2]; exact hn2.1)]
      · rw [if_neg (fun x => e ((kq _ _).1 x)), if_neg (fun x => e (((kq _ _).1 x).trans h1.symm))] at this
        exact this)
    rw [hpq, hrec]
theorem rec_eq {a b : MM} (ha : Rising (keys a)) (hb : Rising (keys b)) (h : Sim a b) : a = b :=
  row_eq (rising_nodup ha) (rising_eq ha hb (fun x => by rw [← mfind_in, ← mfind_in]; rw [show mfind (keyEq (.str : Ty)) x a = mfind (keyEq (.str : Ty)) x b from h x])) h
theorem recs_sim {a b : MM} (ha : (keys a).Nodup) (hb : (keys b).Nodup) (h : Sim a b) : recs a = recs b :=
  rec_eq (recs_rising ha) (recs_rising hb) (fun s => by rw [mfind_recs, mfind_recs, h s])
theorem sim_recs {a b : MM} (h : recs a = recs b) : Sim a b := fun s => by rw [← mfind_recs a, ← mfind_recs b, h]
/-- Records that may be, each key once. -/
def MW (m : MM) : Prop := m.length ≤ 256 ∧ (∀ p ∈ m, p.1.size ≤ 40 ∧ p.2.size ≤ 32768) ∧ (keys m).Nodup
theorem MW.mi {m : MM} (h : MW m) : MI m := ⟨by have := h.1; omega, h.2.1⟩
theorem MW.appl {m : MM} (h : MW m) {l : List ChT} (hb : bad m l = none) : MW (appl m l) := by
  have := h.mi.appl hb
  exact ⟨(bad_none hb).2, this.2, appl_nodup h.2.2 l⟩
theorem MW.nil : MW [] := ⟨by decide, (fun p hp => by cases hp), List.Pairwise.nil⟩
theorem mem_mfind {m : MM} {p : ByteArray × ByteArray} (h : (keys m).Nodup) (hp : p ∈ m) : mfind ks p.1 m = some p.2 := by
  induction m with
  | nil => cases hp
  | cons a m ih =>
    have h2 : a.1 ∉ keys m ∧ (keys m).Nodup := List.nodup_cons.1 h
    unfold mfind
    rcases List.mem_cons.1 hp with rfl | hp
    · rw [if_pos ((kq _ _).2 rfl)]
    · rw [if_neg (fun e => h2.1 (by rw [← (kq _ _).1 e]; exact List.mem_map.2 ⟨p, hp, rfl⟩)), ih h2.2 hp]
theorem MW.sim {a b : MM} (h : MW a) (hb : (keys b).Nodup) (hs : Sim a b) : MW b := by
  refine ⟨?_, fun p hp => ?_, hb⟩
  · have h1 : (keys b).length ≤ (keys a).length := nodup_len hb (fun x hx => by
      rw [← mfind_in] at hx ⊢
      rw [show mfind (keyEq (.str : Ty)) x a = mfind (keyEq (.str : Ty)) x b from hs x]
      exact hx)
    have h2 := h.1
    simp only [keys, List.length_map] at h1
    omega
  · have := mem_mfind hb hp
    rw [← hs] at this
    exact h.2.1 _ (mfind_mem this)
theorem appl_row : ∀ (r : MM) {a : MM}, (keys r).Nodup → (keys a).Nodup → Sim (appl a (r.map fun p => ((p.1, p.2, false) : ChT))) (r ++ a)
  | [], a, _, _ => fun s => rfl
  | p :: r, a, hr, ha => fun s => by
    have h2 : p.1 ∉ keys r ∧ (keys r).Nodup := List.nodup_cons.1 hr
    have ih := appl_row r h2.2 (apC_nodup ha ((p.1, p.2, false) : ChT)) s
    show mfind ks s (appl (apC a (p.1, p.2, false)) (r.map fun p => ((p.1, p.2, false) : ChT))) = _
    rw [ih]
    have app : ∀ (x y : MM), mfind ks s (x ++ y) = (mfind ks s x).or (mfind ks s y) := fun x y => by
      induction x with
      | nil => rfl
      | cons q x ih =>
        simp only [List.cons_append, mfind]
        split
        · rfl
        · exact ih
    rw [app, app, mfind_apC ha]
    have hp : mfind ks s (p :: r) = if ks s p.1 = true then some p.2 else mfind ks s r := rfl
    rw [hp]
    by_cases h : s = p.1
    · subst h
      rw [if_pos rfl, if_pos ((kq _ _).2 rfl), show mfind ks p.1 r = none from mfind_out h2.1]
      rfl
    · rw [if_neg h, if_neg (fun e => h ((kq _ _).1 e))]
theorem appl_dump {m : MM} (h : (keys m).Nodup) : Sim (appl [] (dump m)) m := by
  rw [dump_recs]
  have := appl_row (recs m) (a := []) (rising_nodup (recs_rising h)) .nil
  rw [List.append_nil] at this
  exact this.trans (fun s => mfind_recs m s)
/-! ### the disk's halves -/
def Hf (S : Nat) (f : M) (k : Nat) (l : List CallT) (e last : Nat) : Prop := Ser f ((k + 1) * (S / 2)) l (k * (S / 2)) 0 e last ∧ Stop f S ((k + 1) * (S / 2)) e last
/-- The disk has just these records. -/
def Rest (S : Nat) (f : M) (q : Nat) (m : MM) : Prop := Dk S f q ∧ ((Sim m [] ∧ ∃ l0 e0 l1 e1, Hf S f 0 l0 e0 0 ∧ Hf S f 1 l1 e1 0) ∨
  ∃ k l e n lo eo no, k ≤ 1 ∧ Hf S f k l e n ∧ Hf S f (1 - k) lo eo no ∧ no < n ∧ n ≤ q ∧ Sim m (applS [] l))
/-- The store's own state fits to the disk. -/
def Inv (S : Nat) (f : M) (h e : Int) (q : Nat) (m : MM) : Prop := Dk S f q ∧ ((h = -1 ∧ Sim m [] ∧ ∃ l0 e0 l1 e1, Hf S f 0 l0 e0 0 ∧ Hf S f 1 l1 e1 0) ∨
  ∃ k l e' n lo eo no, k ≤ 1 ∧ h = ((k : Nat) : Int) ∧ e = ((e' : Nat) : Int) ∧ Hf S f k l e' n ∧ Hf S f (1 - k) lo eo no ∧ no < n ∧ n ≤ q ∧ Sim m (applS [] l))
theorem Inv.rest {S : Nat} {f : M} {h e : Int} {q : Nat} {m : MM} (I : Inv S f h e q m) : Rest S f q m := by
  obtain ⟨hd, ⟨-, h2, h3⟩ | ⟨k, l, e', n, lo, eo, no, h1, -, -, h2, h3, h4, h5, h6⟩⟩ := I
  · exact ⟨hd, .inl ⟨h2, h3⟩⟩
  · exact ⟨hd, .inr ⟨k, l, e', n, lo, eo, no, h1, h2, h3, h4, h5, h6⟩⟩
theorem half_le (S : Nat) {k : Nat} (hk : k ≤ 1) : k * (S / 2) ≤ (k + 1) * (S / 2) ∧ (k + 1) * (S / 2) ≤ S := by
  have : k = 0 ∨ k = 1 := by omega
  rcases this with rfl | rfl <;> omega
theorem Hf.le {S k l e last} {f : M} (h : Hf S f k l e last) (hk : k ≤ 1) : k * (S / 2) ≤ e ∧ e ≤ (k + 1) * (S / 2) := ⟨(Ser.last_le h.1).2, Ser.le_en h.1 (half_le S hk).1⟩
theorem Inv.at_ {S : Nat} {f : M} {h e : Int} {q : Nat} {m : MM} (I : Inv S f h e q m) : At S h e := by
  obtain ⟨hd, ⟨h1, -, -⟩ | ⟨k, l, e', n, lo, eo, no, h1, h2, h3, h4, -⟩⟩ := I
  · exact .inl h1
  · exact .inr ⟨k, e', h1, h2, h3, (h4.le h1).2⟩
/-! ### it is opened -/
theorem Ser.len {f : M} {en : Nat} : ∀ {l : List CallT} {a above e last : Nat}, Ser f en l a above e last → a + l.length ≤ e
  | [], a, above, e, last, h => by obtain ⟨rfl, rfl⟩ := h; exact Nat.le_refl _
  | x :: r, a, above, e, last, h => by
    obtain ⟨h1, h2, h3, h4, h5, h6, h7⟩ := h
    have := Ser.len h7
    have hpos := secs_pos (bts_pos above x)
    simp only [List.length_cons]
    omega
theorem load_at {n : Nat} (hn : 40000 < n) {S : Nat} (hS : S ≤ 16384) {c A : Int} {f : M} (hok : ∀ i, i < S → OkS f i) {k : Nat} (hk : k ≤ 1) {l : List CallT} {e last : Nat} (h : Hf S f k l e last) :
    jour_load n (((), (k : Int), ()), (((S : Int), (), (), c, A, false, ()), f, ([] : M), ())) = some (.inl (((((), ()), ((e : Int), ()), ((last : Int), ()), (ErrV.nil, ()), ()), ()), (((S : Int), (), (), c, A, false, ()), f, [], applS [] l, ()))) := by
  obtain ⟨n, rfl⟩ : ∃ k, n = k + 1 := ⟨n - 1, by omega⟩
  have hle := half_le S hk
  have hl := Ser.len h.1
  have hle2 := h.le hk
  have hr := load_run (n := n) (by omega) hS (c := c) (A := A) hok hle.2 l (k * (S / 2)) 0 e last n [] (by omega) hle.1 h.1 h.2
  simp only [jour_load, bounds_at (n := n) (by omega) hS hk]
  rw [show jour_load_l4 n n (((), ((k * (S / 2) : Nat) : Int), (((k + 1) * (S / 2) : Nat) : Int), (), 0, ()), (((S : Int), (), (), c, A, false, ()), f, ([] : M), [], ())) = _ from hr]
theorem calls_at {n : Nat} (hn : 1000 < n) {S : Nat} (hS : S ≤ 16384) {c A : Int} {f : M} {q : Nat} (hd : Dk S f q) (hq : q < 4611686018427387904) (h e : Int) (m : MM) : ∀ d i k v, i + d = S → d < k → v ≤ q → (∀ j, j < i → mfind ki (j : Int) f = none ∨ ∃ (Q j' : Nat) (b : List Int), mfind ki (j : Int) f = some (sect (Q : Int) b j') ∧ 1 ≤ Q ∧ Q ≤ v ∧ j' < secs b.length ∧ secs b.length < 65536) →
    ∃ v', v' ≤ q ∧ Dk S f v' ∧ jour_Open_l14 n k (((), (), (S : Int), (i : Int), ()), (((S : Int), (), (), c, A, false, ()), f, ([] : M), ((), (), h, e, (v : Int), ()), m, ())) = some (.inl (((), ()), (((S : Int), (), (), c, A, false, ()), f, [], ((), (), h, e, ((v' : Nat) : Int), ()), m, ()))) := by
  intro d
  induction d with
  | zero =>
    intro i k v hi hk hv hj
    obtain ⟨k, rfl⟩ : ∃ m, k = m + 1 := ⟨k - 1, by omega⟩
    obtain rfl : i = S := by omega
    refine ⟨v, hv, hj, ?_⟩
    simp only [jour_Open_l14]
    rw [if_neg (by simp)]
  | succ d ih =>
    intro i k v hi hk hv hj
    obtain ⟨k, rfl⟩ : ∃ m, k = m + 1 := ⟨k - 1, by omega⟩
    rcases hd i (by omega) with h1 | ⟨Q, j', b, h1, h2, h3, h4, h5⟩
    · obtain ⟨v', g1, g2, g3⟩ := ih (i + 1) k v (by omega) (by omega) hv (fun j hj2 => by
        rcases Nat.lt_or_ge j i with hlt | hge
        · exact hj j hlt
        · obtain rfl : j = i := by omega
          exact .inl h1)
      refine ⟨v', g1, g2, ?_⟩
      rw [jour_Open_l14, if_pos (decide_eq_true (show (i : Int) < (S : Int) by omega)), readno_at (by omega) (by omega) (by omega) h1]
      simp only []
      rw [if_neg (by decide), if_neg (by decide), w64_up i (by omega)]
      exact g3
    · have hmx : mx (v : Int) (Q : Int) = ((max v Q : Nat) : Int) := by
        unfold mx
        split <;> omega
      obtain ⟨v', g1, g2, g3⟩ := ih (i + 1) k (max v Q) (by omega) (by omega) (by omega) (fun j hj2 => by
        rcases Nat.lt_or_ge j i with hlt | hge
        · rcases hj j hlt with g | ⟨Q', j'', b', g1, g2, g3, g4⟩
          · exact .inl g
          · exact .inr ⟨Q', j'', b', g1, g2, by omega, g4⟩
        · obtain rfl : j = i := by omega
          exact .inr ⟨Q, j', b, h1, h2, by omega, h4, h5⟩)
      refine ⟨v', g1, g2, ?_⟩
      rw [jour_Open_l14, if_pos (decide_eq_true (show (i : Int) < (S : Int) by omega)), read1_at (by omega) (by omega) (by omega) h1 (by omega) (by omega) h5]
      simp only []
      rw [if_neg (by decide), if_pos trivial, w64_up i (by omega), hmx]
      exact g3
/-- The last number stands on the disk. -/
theorem Ser.last_on {S q : Nat} {f : M} (hd : Dk S f q) {en : Nat} (hen : en ≤ S) (hq : q < 4611686018427387904) : ∀ {l : List CallT} {a above e last : Nat}, above ≤ q → Ser f en l a above e last → last ≤ q
  | [], a, above, e, last, ha, h => by obtain ⟨rfl, rfl⟩ := h; exact ha
  | x :: r, a, above, e, last, ha, h => by
    obtain ⟨h1, h2, h3, h4, h5, h6, h7⟩ := h
    have hpos := secs_pos (bts_pos above x)
    refine Ser.last_on hd hen hq ?_ h7
    have h0 := h5 0 hpos
    rcases hd (a + 0) (by omega) with g | ⟨Q, j, b, g1, g2, g3, g4⟩
    · rw [h0] at g; cases g
    · rw [h0] at g1
      injection g1 with g1
      rw [sect_inj h2 (by omega) g1]
      exact g3
theorem open_at {n : Nat} (hn : 60000 < n) {S : Nat} (hS : S ≤ 16384) {c A : Int} {f : M} {q : Nat} (hq : q < 4611686018427387904) {m : MM} (hR : Rest S f q m) :
    ∃ (h e : Int) (q' : Nat) (m' : MM), jour_Open n (((), ()), (((S : Int), (), (), c, A, false, ()), f, ([] : M), ())) = some (.inl (((((), ()), (ErrV.nil, ()), ()), ()), (((S : Int), (), (), c, A, false, ()), f, [], ((), (), h, e, (q' : Int), ()), m', ()))) ∧ Inv S f h e q' m' ∧ q' ≤ q ∧ Sim m m' ∧ (keys m').Nodup := by
  obtain ⟨n, rfl⟩ : ∃ k, n = k + 4 := ⟨n - 4, by omega⟩
  obtain ⟨hd, hR⟩ := hR
  have hok := hd.ok hq
  have fin : ∀ (h e : Int) (m' : MM) (l0 l1 : List CallT) (e0 e1 n0 n1 : Nat), Hf S f 0 l0 e0 n0 → Hf S f 1 l1 e1 n1 → (jour_Open_l4 (n + 3) (n + 3) (((), (), 0, 0, ()), (((S : Int), (), (), c, A, false, ()), f, ([] : M), ((), (), (-1), 0, 0, ()), [], ())) = some (.inl (((), (), ()), (((S : Int), (), (), c, A, false, ()), f, [], ((), (), h, e, 0, ()), m', ())))) → ∃ q' : Nat, jour_Open (n + 4) (((), ()), (((S : Int), (), (), c, A, false, ()), f, ([] : M), ())) = some (.inl (((((), ()), (ErrV.nil, ()), ()), ()), (((S : Int), (), (), c, A, false, ()), f, [], ((), (), h, e, (q' : Int), ()), m', ()))) ∧ q' ≤ q ∧ Dk S f q' := by
    intro h e m' l0 l1 e0 e1 n0 n1 H0 H1 hl4
    obtain ⟨v', g1, g2, g3⟩ := calls_at (n := n + 3) (by omega) hS (c := c) (A := A) hd hq h e m' S 0 (n + 3) 0 (by omega) (by omega) (by omega) (fun j hj => absurd hj (by omega))
    refine ⟨v', ?_, g1, g2⟩
    have e0 : disk_Disk_Sectors (n + 3) (((), ()), (((S : Int), (), (), c, A, false, ()), f, ([] : M), ())) = some (((S : Int), ()), (((S : Int), (), (), c, A, false, ()), f, [], ())) := rfl
    simp only [jour_Open]
    rw [hl4]
    simp only []
    rw [e0]
    simp only []
    rw [show jour_Open_l14 (n + 3) (n + 3) (((), (), (S : Int), 0, ()), (((S : Int), (), (), c, A, false, ()), f, ([] : M), ((), (), h, e, 0, ()), m', ())) = _ from g3]
  have two : ∀ (l0 l1 : List CallT) (e0 e1 n0 n1 : Nat), Hf S f 0 l0 e0 n0 → Hf S f 1 l1 e1 n1 → jour_Open_l4 (n + 3) (n + 3) (((), (), 0, 0, ()), (((S : Int), (), (), c, A, false, ()), f, ([] : M), ((), (), (-1), 0, 0, ()), [], ())) = some (.inl (((), (), ()), (((S : Int), (), (), c, A, false, ()), f, [], ((), (), (if n0 < n1 then 1 else if 0 < n0 then 0 else -1), (if n0 < n1 then (e1 : Int) else if 0 < n0 then (e0 : Int) else 0), 0, ()), (if n0 < n1 then applS [] l1 else if 0 < n0 then applS [] l0 else []), ()))) := by
    intro l0 l1 e0 e1 n0 n1 H0 H1
    have h0 := load_at (n := n + 3) (by omega) hS (c := c) (A := A) hok (k := 0) (by omega) H0
    have h1 := load_at (n := n + 3) (by omega) hS (c := c) (A := A) hok (k := 1) (by omega) H1
    rw [jour_Open_l4, if_pos (by decide), show jour_load (n + 3) (((), 0, ()), (((S : Int), (), (), c, A, false, ()), f, ([] : M), ())) = _ from h0]
    simp only []
    rw [if_neg (by decide), show IntKind.i64.wrap (0 + 1) = 1 from rfl]
    by_cases c0 : 0 < n0
    · rw [if_pos (decide_eq_true (show (n0 : Int) > 0 by omega)), jour_Open_l4, if_pos (by decide), show jour_load (n + 3) (((), 1, ()), (((S : Int), (), (), c, A, false, ()), f, ([] : M), ())) = _ from h1]
      simp only []
      rw [if_neg (by decide), show IntKind.i64.wrap (1 + 1) = 2 from rfl]
      by_cases c1 : n0 < n1
      · rw [if_pos (decide_eq_true (show (n1 : Int) > (n0 : Int) by omega)), jour_Open_l4, if_neg (by decide), if_pos c1, if_pos c1, if_pos c1]
      · rw [if_neg (by simp; omega), jour_Open_l4, if_neg (by decide), if_neg c1, if_neg c1, if_neg c1, if_pos c0, if_pos c0, if_pos c0]
    · obtain rfl : n0 = 0 := by omega
      rw [if_neg (by decide), jour_Open_l4, if_pos (by decide), show jour_load (n + 3) (((), 1, ()), (((S : Int), (), (), c, A, false, ()), f, ([] : M), ())) = _ from h1]
      simp only []
      rw [if_neg (by decide), show IntKind.i64.wrap (1 + 1) = 2 from rfl]
      by_cases c1 : 0 < n1
      · rw [if_pos (decide_eq_true (show (n1 : Int) > 0 by omega)), jour_Open_l4, if_neg (by decide), if_pos c1, if_pos c1, if_pos c1]
      · rw [if_neg (by simp; omega), jour_Open_l4, if_neg (by decide), if_neg c1, if_neg c1, if_neg c1, if_neg c0, if_neg c0, if_neg c0]
  rcases hR with ⟨h1, l0, e0, l1, e1, H0, H1⟩ | ⟨k, l, e, n', lo, eo, no, h1, H, Ho, hlt, hnq, hs⟩
  · obtain ⟨q', g1, g2, g3⟩ := fin _ _ _ l0 l1 e0 e1 0 0 H0 H1 (two l0 l1 e0 e1 0 0 H0 H1)
    exact ⟨-1, 0, q', [], g1, ⟨g3, .inl ⟨rfl, fun s => rfl, l0, e0, l1, e1, H0, H1⟩⟩, g2, h1, .nil⟩
  · have hk : k = 0 ∨ k = 1 := by omega
    rcases hk with rfl | rfl
    · obtain ⟨q', g1, g2, g3⟩ := fin _ _ _ l lo e eo n' no H Ho (two l lo e eo n' no H Ho)
      have c1 : ¬ n' < no := by omega
      have c2 : 0 < n' := by omega
      rw [if_neg c1, if_neg c1, if_neg c1, if_pos c2, if_pos c2, if_pos c2] at g1
      exact ⟨0, e, q', applS [] l, g1, ⟨g3, .inr ⟨0, l, e, n', lo, eo, no, by omega, rfl, rfl, H, Ho, hlt, Ser.last_on g3 (half_le S (by omega)).2 (by omega) (by omega) H.1, fun s => rfl⟩⟩, g2, hs, applS_nodup l .nil⟩
    · obtain ⟨q', g1, g2, g3⟩ := fin _ _ _ lo l eo e no n' Ho H (two lo l eo e no n' Ho H)
      rw [if_pos hlt, if_pos hlt, if_pos hlt] at g1
      exact ⟨1, e, q', applS [] l, g1, ⟨g3, .inr ⟨1, l, e, n', lo, eo, no, by omega, rfl, rfl, H, Ho, hlt, Ser.last_on g3 (half_le S (by omega)).2 (by omega) (by omega) H.1, fun s => rfl⟩⟩, g2, hs, applS_nodup l .nil⟩
theorem strEq_true {x y : ByteArray} : (strEq x y = true) ↔ x = y := by rw [strEq_iff]; simp
theorem equalM_sim {a b : MM} (ha : (keys a).Nodup) (hb : (keys b).Nodup) (h : equalM a b = true) : Sim a b := by
  unfold equalM at h
  rw [Bool.and_eq_true, List.all_eq_true] at h
  have hl : a.length = b.length := of_decide_eq_true h.1
  have sub : ∀ x ∈ keys a, x ∈ keys b := fun x hx => by
    obtain ⟨p, hp, rfl⟩ := List.mem_map.1 hx
    have := h.2 p hp
    rw [← mfind_in]
    split at this
    · rename_i v e
      rw [e]
      rfl
    · cases this
  have sup : ∀ x ∈ keys b, x ∈ keys a := fun x hx => by
    refine Classical.byContradiction fun hn => ?_
    have := nodup_len (l := x :: keys a) (m := keys b) (List.nodup_cons.2 ⟨hn, ha⟩) (fun y hy => by
      rcases List.mem_cons.1 hy with rfl | hy
      · exact hx
      · exact sub y hy)
    simp only [List.length_cons, keys, List.length_map] at this
    omega
  intro s
  by_cases hs : s ∈ keys a
  · obtain ⟨p, hp, rfl⟩ := List.mem_map.1 hs
    have h1 := h.2 p hp
    rw [mem_mfind ha hp]
    split at h1
    · rename_i v e
      rw [show mfind ks p.1 b = some v from e, strEq_true.1 h1]
    · cases h1
  · rw [show mfind ks s a = none from mfind_out hs, show mfind ks s b = none from mfind_out (fun e => hs (sup s e))]
end Go.Proofs.YthbbokndogjopaaGreatDoor.Pure

namespace Go.Proofs.YthbbokndogjopaaGreatDoor.Pure
open Go Go.Lib Go.Proofs.YthbbokndogjopaaGreatDoor.Cm
open Classical
set_option linter.unusedVariables false
set_option linter.unusedSimpArgs false
set_option maxRecDepth 100000
/-- The other half is as it was. -/
theorem Hf.other {S q : Nat} {f f' : M} (hd : Dk S f' q) (hq : q < 4611686018427387904) {k : Nat} (hk : k ≤ 1) {p Q : Nat} {b : List Int} {W : Nat → Prop} (o : Over f f' p Q b W) (hp : (k + 1) * (S / 2) ≤ p ∨ p + secs b.length ≤ k * (S / 2)) {l : List CallT} {e last : Nat} (H : Hf S f k l e last) : Hf S f' k l e last := by
  have hle := half_le S hk
  have h2 := H.le hk
  have hs : ∀ x : Nat, k * (S / 2) ≤ x → x < (k + 1) * (S / 2) → mfind ki (x : Int) f' = mfind ki (x : Int) f := fun x h1 h2 => o.off x (fun i h3 _ h4 => by omega)
  exact ⟨Ser.same H.1 (fun x h3 h4 => hs x h3 (by omega)), stop_same hd hq hle.2 h2 H.2 hs⟩
/-- A call behind the last one, whole. -/
theorem Hf.app {S q : Nat} {f f' : M} (hd : Dk S f' (q + 1)) (hq : q + 1 < 4611686018427387904) {k : Nat} (hk : k ≤ 1) {l : List CallT} {e last : Nat} (H : Hf S f k l e last) (hl : last ≤ q) {ch : List ChT} (h3 : ch.length ≤ 1000) (h4 : ∀ c ∈ ch, c.1.size ≤ 40 ∧ c.2.1.size ≤ 32768) (o : Over f f' e (q + 1) (bts last (q + 1, ch)) (fun _ => True)) (hr : e + secs (bts last (q + 1, ch)).length ≤ (k + 1) * (S / 2)) : Hf S f' k (l ++ [(q + 1, ch)]) (e + secs (bts last (q + 1, ch)).length) (q + 1) := by
  have hle := half_le S hk
  have h2 := H.le hk
  refine ⟨Ser.append (Ser.same H.1 (fun x h3 h4 => o.off x (fun i h5 _ h6 => by omega))) ⟨by show last < q + 1; omega, hq, h3, h4, fun j hj => o.on j hj trivial, hr, rfl, rfl⟩, stop_top hd hq (by omega)⟩
/-- A call at a half's beginning, whole. -/
theorem Hf.new {S q : Nat} {f' f : M} (hd : Dk S f' (q + 1)) (hq : q + 1 < 4611686018427387904) {k : Nat} (hk : k ≤ 1) {ch : List ChT} (h3 : ch.length ≤ 1000) (h4 : ∀ c ∈ ch, c.1.size ≤ 40 ∧ c.2.1.size ≤ 32768) (o : Over f f' (k * (S / 2)) (q + 1) (by_ 0 ch) (fun _ => True)) (hr : secs (by_ 0 ch).length ≤ S / 2) : Hf S f' k [(q + 1, ch)] (k * (S / 2) + secs (by_ 0 ch).length) (q + 1) := by
  have hle := half_le S hk
  have hk2 : k = 0 ∨ k = 1 := by omega
  have hr2 : k * (S / 2) + secs (by_ 0 ch).length ≤ (k + 1) * (S / 2) := by rcases hk2 with rfl | rfl <;> omega
  exact ⟨⟨by show 0 < q + 1; omega, hq, h3, h4, fun j hj => o.on j hj trivial, hr2, rfl, rfl⟩, stop_top hd hq (by omega)⟩
/-- What a call is: changes behind the last one, or all records at the other half's beginning. -/
inductive CallAt (S : Nat) (h e : Int) (m m' : MM) : Nat → List Int → Int → Int → Prop
  | app (l : List ChT) (h0 : 0 ≤ h) (hr : e + (secs (by_ 1 l).length : Int) ≤ (h + 1) * ((S / 2 : Nat) : Int)) (h3 : l.length ≤ 1000) (h4 : ∀ c ∈ l, c.1.size ≤ 40 ∧ c.2.1.size ≤ 32768) (hm : m' = appl m l) : CallAt S h e m m' e.toNat (by_ 1 l) h (e + (secs (by_ 1 l).length : Int))
  | new (hr : secs (by_ 0 (dump m')).length ≤ S / 2) : CallAt S h e m m' (nextH h * (S / 2)) (by_ 0 (dump m')) (nextH h : Int) ((nextH h * (S / 2) + secs (by_ 0 (dump m')).length : Nat) : Int)
theorem call_plan {S : Nat} {h e : Int} {m : MM} {l : List ChT} (hl : l.length ≤ 1000) (hb : bad m l = none) {r : Nat × List Int × Int × Int} (hp : plan S h e m l = some r) : CallAt S h e m (appl m l) r.1 r.2.1 r.2.2.1 r.2.2.2 := by
  unfold plan at hp
  split at hp
  · rename_i hc
    cases hp
    exact .app l hc.1 hc.2 hl (fun c hc => ((bad_none hb).1 c hc).2) rfl
  · unfold planA at hp
    split at hp
    · rename_i hc
      cases hp
      exact .new hc
    · cases hp
theorem call_planA {S : Nat} {h e : Int} {m : MM} {r : Nat × List Int × Int × Int} (hp : planA S h m = some r) : CallAt S h e m m r.1 r.2.1 r.2.2.1 r.2.2.2 := by
  unfold planA at hp
  split at hp
  · rename_i hc
    cases hp
    exact .new hc
  · cases hp
theorem secs_16 {S p : Nat} (hS : S ≤ 16384) {b : List Int} (h : p + secs b.length ≤ S) : secs b.length < 65536 := by omega
/-- A whole call. -/
theorem Inv.step {S : Nat} (hS : S ≤ 16384) {f f' : M} {h e : Int} {q : Nat} (hq : q + 1 < 4611686018427387904) {m m' : MM} (hm : MW m) (hm' : MW m') (I : Inv S f h e q m) {p : Nat} {b : List Int} {h' e' : Int} (C : CallAt S h e m m' p b h' e') (o : Over f f' p (q + 1) b (fun _ => True)) : Inv S f' h' e' (q + 1) m' := by
  obtain ⟨hd, I⟩ := I
  cases C with
  | app l h0 hr h3 h4 hm2 =>
    rcases I with ⟨rfl, -, -⟩ | ⟨k, ll, e1, n, lo, eo, no, k1, rfl, rfl, H, Ho, hlt, hnq, hs⟩
    · exact absurd h0 (by decide)
    have hk2 : k = 0 ∨ k = 1 := by omega
    have hle := half_le S k1
    have h2 := H.le k1
    have hr' : e1 + secs (by_ 1 l).length ≤ (k + 1) * (S / 2) := by rcases hk2 with rfl | rfl <;> omega
    have hd' := hd.over o (secs_16 hS (p := e1) (by omega))
    have hkind : by_ 1 l = bts n (q + 1, l) := by
      unfold bts kindOf
      rw [if_neg (by omega)]
    rw [Int.toNat_natCast] at o
    have Ho' := Hf.other hd' hq (k := 1 - k) (by omega) o (by rcases hk2 with rfl | rfl <;> omega) Ho
    rw [hkind] at o hr' ⊢
    have H' := Hf.app hd' hq k1 H hnq h3 h4 o hr'
    refine ⟨hd', .inr ⟨k, _, _, _, lo, eo, no, k1, rfl, by omega, H', Ho', by omega, Nat.le_refl _, ?_⟩⟩
    rw [applS_append, hm2]
    exact hs.appl l hm.2.2 (applS_nodup ll .nil)
  | new hr =>
    have hnm : nextH h = 0 ∨ nextH h = 1 := by unfold nextH; split <;> omega
    have k1 : nextH h ≤ 1 := by omega
    have hle := half_le S k1
    have hr' : nextH h * (S / 2) + secs (by_ 0 (dump m')).length ≤ (nextH h + 1) * (S / 2) := by rcases hnm with e0 | e0 <;> rw [e0] <;> omega
    have hd' := hd.over o (secs_16 hS (p := nextH h * (S / 2)) (by omega))
    have H' := Hf.new hd' hq k1 (by rw [dump_len]; have := hm'.1; omega) (dump_ok hm'.mi) o hr
    have hoth : ∃ lo eo no, Hf S f (1 - nextH h) lo eo no ∧ no ≤ q := by
      rcases I with ⟨rfl, -, l0, e0, l1, e1, H0, H1⟩ | ⟨k, ll, e1, n, lo, eo, no, k2, rfl, rfl, H, Ho, hlt, hnq, hs⟩
      · exact ⟨l1, e1, 0, H1, by omega⟩
      · have hk2 : k = 0 ∨ k = 1 := by omega
        rcases hk2 with rfl | rfl
        · exact ⟨ll, e1, n, H, hnq⟩
        · exact ⟨ll, e1, n, H, hnq⟩
    obtain ⟨lo, eo, no, Ho, hno⟩ := hoth
    have Ho' := Hf.other hd' hq (k := 1 - nextH h) (by omega) o (by rcases hnm with e0 | e0 <;> rw [e0] <;> rw [e0] at hr' <;> omega) Ho
    refine ⟨hd', .inr ⟨nextH h, _, _, _, lo, eo, no, k1, rfl, rfl, H', Ho', by omega, Nat.le_refl _, ?_⟩⟩
    exact (appl_dump hm'.2.2).symm
/-- A call that is there in part: the records are those ahead of it. -/
theorem Inv.torn {S : Nat} (hS : S ≤ 16384) {f f' : M} {h e : Int} {q : Nat} (hq : q + 1 < 4611686018427387904) {m m' : MM} (I : Inv S f h e q m) {p : Nat} {b : List Int} {h' e' : Int} (C : CallAt S h e m m' p b h' e') {W : Nat → Prop} (o : Over f f' p (q + 1) b W) (hW : ∃ i, i < secs b.length ∧ ¬ W i) : Rest S f' (q + 1) m := by
  obtain ⟨hd, I⟩ := I
  obtain ⟨w, w1, w2⟩ := hW
  cases C with
  | app l h0 hr h3 h4 hm2 =>
    rcases I with ⟨rfl, -, -⟩ | ⟨k, ll, e1, n, lo, eo, no, k1, rfl, rfl, H, Ho, hlt, hnq, hs⟩
    · exact absurd h0 (by decide)
    have hk2 : k = 0 ∨ k = 1 := by omega
    have hle := half_le S k1
    have h2 := H.le k1
    have hr' : e1 + secs (by_ 1 l).length ≤ (k + 1) * (S / 2) := by rcases hk2 with rfl | rfl <;> omega
    have hd' := hd.over o (secs_16 hS (p := e1) (by omega))
    rw [Int.toNat_natCast] at o
    have Ho' := Hf.other hd' hq (k := 1 - k) (by omega) o (by rcases hk2 with rfl | rfl <;> omega) Ho
    have H' : Hf S f' k ll e1 n := ⟨Ser.same H.1 (fun x h3 h4 => o.off x (fun i h5 _ h6 => by omega)), stop_over hd hq o (secs_16 hS (p := e1) (by omega)) hle.2 H.2 (fun _ hw0 _ => ⟨w, by
      rcases Nat.eq_zero_or_pos w with rfl | hp
      · exact absurd hw0 w2
      · exact hp, w1, w2, by omega⟩)⟩
    exact ⟨hd', .inr ⟨k, ll, e1, n, lo, eo, no, k1, H', Ho', hlt, by omega, hs⟩⟩
  | new hr =>
    have hnm : nextH h = 0 ∨ nextH h = 1 := by unfold nextH; split <;> omega
    have k1 : nextH h ≤ 1 := by omega
    have hle := half_le S k1
    have hr' : nextH h * (S / 2) + secs (by_ 0 (dump m')).length ≤ (nextH h + 1) * (S / 2) := by rcases hnm with e0 | e0 <;> rw [e0] <;> omega
    have hsb := secs_16 hS (p := nextH h * (S / 2)) (b := by_ 0 (dump m')) (by omega)
    have hd' := hd.over o hsb
    have tn : ∀ {l : List CallT} {e last : Nat}, last ≤ q → Hf S f (nextH h) l e last → ∃ l' e' last', Hf S f' (nextH h) l' e' last' ∧ last' ≤ last := fun hl H => by
      obtain ⟨l', e', last', g1, g2, g3⟩ := Ser.torn hd hq o hsb hle.2 (by omega) (fun hw0 _ => ⟨w, by
        rcases Nat.eq_zero_or_pos w with rfl | hp
        · exact absurd hw0 w2
        · exact hp, w1, w2, by omega⟩) hle.1 hl H.1 H.2
      exact ⟨l', e', last', ⟨g1, g2⟩, g3⟩
    rcases I with ⟨rfl, hs, l0, e0, l1, e1, H0, H1⟩ | ⟨k, ll, e1, n, lo, eo, no, k2, rfl, rfl, H, Ho, hlt, hnq, hs⟩
    · obtain ⟨l', e', last', g1, g2⟩ := tn (by omega) (show Hf S f (nextH (-1)) l0 e0 0 from H0)
      obtain rfl : last' = 0 := by omega
      exact ⟨hd', .inl ⟨hs, l', e', l1, e1, g1, Hf.other hd' hq (k := 1) (by omega) o (by rw [show nextH (-1) = 0 from rfl] at hr' ⊢; omega) H1⟩⟩
    · have hk2 : k = 0 ∨ k = 1 := by omega
      rcases hk2 with rfl | rfl
      · obtain ⟨l', e', last', g1, g2⟩ := tn (by omega) (show Hf S f (nextH ((0 : Nat) : Int)) lo eo no from Ho)
        have H' := Hf.other hd' hq (k := 0) (by omega) o (by rw [show nextH ((0 : Nat) : Int) = 1 from rfl] at hr' ⊢; omega) H
        exact ⟨hd', .inr ⟨0, ll, e1, n, l', e', last', by omega, H', g1, by omega, by omega, hs⟩⟩
      · obtain ⟨l', e', last', g1, g2⟩ := tn (by omega) (show Hf S f (nextH ((1 : Nat) : Int)) lo eo no from Ho)
        have H' := Hf.other hd' hq (k := 1) (by omega) o (by rw [show nextH ((1 : Nat) : Int) = 0 from rfl] at hr' ⊢; omega) H
        exact ⟨hd', .inr ⟨1, ll, e1, n, l', e', last', by omega, H', g1, by omega, by omega, hs⟩⟩
/-- What a flush leaves. -/
theorem over_wr (f : M) (p Q : Nat) (b : List Int) : Over f (mergeM f (wp p (Q : Int) b (secs b.length))) p Q b (fun _ => True) := by
  refine ⟨fun i hi _ => ?_, fun x hx => ?_⟩
  · rw [mfind_merge, mfind_wp, if_pos (by omega), show p + i - p = i by omega]
    rfl
  · rw [mfind_merge, mfind_wp]
    by_cases h : p ≤ x ∧ x < p + secs b.length
    · exact absurd (show x = p + (x - p) by omega) (hx (x - p) (by omega) trivial)
    · rw [if_neg h]
      rfl
theorem Fl.wr {S : Int} {f : M} {L : Nat} (h : Fl S f L) {p : Nat} {q : Int} {b : List Int} (hr : ((p + secs b.length : Nat) : Int) ≤ S) : Fl S (mergeM f (wp p q b (secs b.length))) (L + secs b.length) := by
  refine ⟨fun x hx => ?_, ?_⟩
  · rcases merge_keys hx with hx | hx
    · exact h.k x hx
    · have := wp_keys p q b _ x hx
      omega
  · have h1 := merge_len f (wp p q b (secs b.length))
    have h2 := h.len
    have h3 := wp_len p q b (secs b.length)
    omega
theorem opened_inv {S : Nat} : Inv S [] (-1) 0 0 [] := by
  refine ⟨fun i hi => .inl rfl, .inl ⟨rfl, fun s => rfl, [], 0 * (S / 2), [], 1 * (S / 2), ⟨⟨rfl, rfl⟩, ?_⟩, ⟨⟨rfl, rfl⟩, ?_⟩⟩⟩
  · rcases Nat.lt_or_ge (0 * (S / 2)) S with h | h
    · exact .inr ⟨h, .inl rfl⟩
    · exact .inl (by omega)
  · rcases Nat.lt_or_ge (1 * (S / 2)) S with h | h
    · exact .inr ⟨h, .inl rfl⟩
    · exact .inl (by omega)
end Go.Proofs.YthbbokndogjopaaGreatDoor.Pure

namespace Go.Proofs.YthbbokndogjopaaGreatDoor.Pure
open Go Go.Lib Go.Proofs.YthbbokndogjopaaGreatDoor.Cm
open Classical
set_option linter.unusedVariables false
set_option linter.unusedSimpArgs false
set_option maxRecDepth 100000
theorem CallAt.size {S : Nat} {h e : Int} {m m' : MM} (hm : MW m') {p : Nat} {b : List Int} {h' e' : Int} (C : CallAt S h e m m' p b h' e') : b.length < 1000000000 := by
  cases C with
  | app l h0 hr h3 h4 hm2 => exact by_size h3 h4 1
  | new hr => exact by_size (by rw [dump_len]; have := hm.1; omega) (dump_ok hm.mi) 0
/-- A call's writing, whole. -/
theorem write_done {n : Nat} (hn : 20000 < n) {S : Nat} (hS : S ≤ 16384) {c : Int} (hc : 0 ≤ c ∧ c < 100000000) {h e : Int} {q : Nat} (hq : q < 1000000) {m m' : MM} (hm : MW m) (hm' : MW m') {f : M} {L : Nat} (hf : Fl S f L) (hL : L ≤ 450000) (I : Inv S f h e q m) {p : Nat} {b : List Int} {h' e' : Int} (C : CallAt S h e m m' p b h' e') (hr : p + secs b.length ≤ S) (m0 : MM) :
    ∃ f', jour_Store_write n (((), (p : Int), b, ()), (((), (), h, e, (q : Int), ()), ((S : Int), (), (), c, 0, false, ()), m0, f, [], ())) = some ((ErrV.nil, ()), (((), (), h, e, ((q + 1 : Nat) : Int), ()), ((S : Int), (), (), c + (secs b.length : Int) + 1, 0, false, ()), m0, f', [], ())) ∧ Inv S f' h' e' (q + 1) m' ∧ Fl S f' (L + S) := by
  refine ⟨mergeM f (wp p ((q + 1 : Nat) : Int) b (secs b.length)), ?_, I.step hS (by omega) hm hm' C (over_wr f p (q + 1) b), ?_⟩
  · have := write_at hn (S := (S : Int)) (by omega) (at_ := p) b (C.size hm') (by omega) hc (q := (q : Int)) (by omega) h e m0 hf (by omega) (A := 0) (by omega) (.inl rfl)
    rw [show 0 - (secs b.length + 1) = 0 by omega] at this
    exact this
  · have := hf.wr (p := p) (q := ((q + 1 : Nat) : Int)) (b := b) (by omega)
    exact ⟨this.k, by have := this.len; omega⟩
/-- A Commit that changes something. -/
theorem commit_done {n : Nat} (hn : 60000 < n) {S : Nat} (hS : S ≤ 16384) {c : Int} (hc : 0 ≤ c ∧ c < 100000000) {h e : Int} {q : Nat} (hq : q < 1000000) {m : MM} (hm : MW m) {f : M} {L : Nat} (hf : Fl S f L) (hL : L ≤ 450000) (I : Inv S f h e q m) {l : List ChT} (hl : l.length ≤ 1000) (hb : bad m l = none) (he : equalM (appl m l) m = false) :
    (plan S h e m l = none ∧ jour_Store_Commit n (((), l, ()), (((), (), h, e, (q : Int), ()), ((S : Int), (), (), c, 0, false, ()), m, f, [], ())) = some (.inl ((ErrV.sent 118, ()), (((), (), h, e, (q : Int), ()), ((S : Int), (), (), c, 0, false, ()), m, f, [], ())))) ∨
    (∃ (h' e' c' : Int) (f' : M), jour_Store_Commit n (((), l, ()), (((), (), h, e, (q : Int), ()), ((S : Int), (), (), c, 0, false, ()), m, f, [], ())) = some (.inr (((ErrV.nil, ()), (((), (), h', e', ((q + 1 : Nat) : Int), ()), ((S : Int), (), (), c', 0, false, ()), m, f', [], appl m l, ())))) ∧ Inv S f' h' e' (q + 1) (appl m l) ∧ Fl S f' (L + S) ∧ c ≤ c' ∧ c' ≤ c + S + 1) := by
  cases hp : plan S h e m l with
  | none =>
    have := commit_via (n := n) (by omega) hS (c := c) (A := 0) (q := (q : Int)) I.at_ hm.mi (f := f) (p := []) hl hb he (er := ErrV.nil) (q2 := 0) (c2 := 0) (A2 := 0) (dn2 := false) (f2 := []) (p2 := []) (fun r n' h1 => by rw [hp] at h1; cases h1)
    rw [hp] at this
    exact .inl ⟨rfl, this⟩
  | some r =>
    have hroom := (plan_room I.at_ hp).1
    have hC := call_plan hl hb hp
    have hW := fun n' (h2 : 40000 < n') => write_done (n := n') (by omega) hS hc hq hm (hm.appl hb) hf hL I hC hroom m
    obtain ⟨f', -, g2, g3⟩ := hW 50000 (by omega)
    have hW2 : ∀ n', 40000 < n' → jour_Store_write n' (((), (r.1 : Int), r.2.1, ()), (((), (), h, e, (q : Int), ()), ((S : Int), (), (), c, 0, false, ()), m, f, [], ())) = some ((ErrV.nil, ()), (((), (), h, e, ((q + 1 : Nat) : Int), ()), ((S : Int), (), (), c + (secs r.2.1.length : Int) + 1, 0, false, ()), m, mergeM f (wp r.1 ((q + 1 : Nat) : Int) r.2.1 (secs r.2.1.length)), [], ())) := fun n' h2 => by
      have := write_at (n := n') (by omega) (S := (S : Int)) (by omega) (at_ := r.1) r.2.1 (hC.size (hm.appl hb)) (by omega) hc (q := (q : Int)) (by omega) h e m hf (by omega) (A := 0) (by omega) (.inl rfl)
      rw [show 0 - (secs r.2.1.length + 1) = 0 by omega] at this
      exact this
    have := commit_via (n := n) (by omega) hS (c := c) (A := 0) (q := (q : Int)) I.at_ hm.mi (f := f) (p := []) hl hb he (er := ErrV.nil) (fun r' n' h1 h2 => by
      rw [hp] at h1
      cases h1
      exact hW2 n' h2)
    rw [hp] at this
    refine .inr ⟨_, _, _, _, this, I.step hS (by omega) hm (hm.appl hb) hC (over_wr f r.1 (q + 1) r.2.1), ?_, by omega, by omega⟩
    have := hf.wr (p := r.1) (q := ((q + 1 : Nat) : Int)) (b := r.2.1) (by omega)
    exact ⟨this.k, by have := this.len; omega⟩
end Go.Proofs.YthbbokndogjopaaGreatDoor.Pure

namespace Go.Proofs.YthbbokndogjopaaGreatDoor.Pure
open Go Go.Lib Go.Proofs.YthbbokndogjopaaGreatDoor.Cm
open Classical
set_option linter.unusedVariables false
set_option linter.unusedSimpArgs false
set_option maxRecDepth 100000
/-- Values of so many bytes. -/
def VL (long : Nat) (m : MM) : Prop := ∀ p ∈ m, p.2.size ≤ long
theorem VL.appl {long : Nat} {m : MM} (h : VL long m) {l : List ChT} (hl : ∀ c ∈ l, c.2.1.size ≤ long) : VL long (appl m l) := fun p hp => by
  rcases appl_mem hp with hp | ⟨c, hc, rfl⟩
  · exact h p hp
  · exact hl c hc
theorem VL.sim {long : Nat} {a b : MM} (h : VL long a) (hb : (keys b).Nodup) (hs : Sim a b) : VL long b := fun p hp => by
  have := mem_mfind hb hp
  rw [← hs] at this
  exact h _ (mfind_mem this)
theorem chE_len2 {c : ChT} {v : Nat} (h1 : c.1.size ≤ 40) (h2 : c.2.1.size ≤ v) : (chE c).length ≤ 70 + v := by
  obtain ⟨c1, c2, c3⟩ := c
  have a := txt_len c1
  have b := txt_len c2
  have d0 := (enc_len 0).2
  have d1 := (enc_len 1).2
  simp only at h1 h2
  cases c3 with
  | true =>
    show ((txt c1 ++ enc 1) ++ []).length ≤ _
    simp only [List.length_append, List.length_nil]
    omega
  | false =>
    show ((txt c1 ++ enc 0) ++ txt c2).length ≤ _
    simp only [List.length_append]
    omega
/-- All records need so many sectors. -/
theorem dump_small {m : MM} (hm : MW m) {long : Nat} (h : VL long m) : (by_ 0 (dump m)).length ≤ 20 + (70 + long) * 256 := by
  have h1 := (enc_len 0).2
  have h2 := (enc_len ((dump m).length : Int)).2
  have h3 := flat_len chE (70 + long) (dump m) (fun c hc => by
    refine chE_len2 (dump_ok hm.mi c hc).1 ?_
    unfold dump at hc
    obtain ⟨k, hk, rfl⟩ := List.mem_map.1 hc
    show (getM m k).size ≤ _
    unfold getM
    cases e : mfind ks k m with
    | none => exact Nat.zero_le _
    | some v => exact h _ (mfind_mem e))
  have h4 : (dump m).length ≤ 256 := by rw [dump_len]; exact hm.1
  have h5 : (70 + long) * (dump m).length ≤ (70 + long) * 256 := Nat.mul_le_mul_left _ h4
  simp only [by_, List.length_append]
  omega
end Go.Proofs.YthbbokndogjopaaGreatDoor.Pure

namespace Go.Proofs.YthbbokndogjopaaGreatDoor.Pure
open Go Go.Lib Go.Proofs.YthbbokndogjopaaGreatDoor.Cm
open Classical
set_option linter.unusedVariables false
set_option linter.unusedSimpArgs false
set_option maxRecDepth 100000
theorem first_at {n : Nat} (hn : 200 ≤ n) : law4_first n ((), ()) = some ((true, ()), ()) := by
  obtain ⟨n, rfl⟩ : ∃ m, n = m + 120 := ⟨n - 120, by omega⟩
  kernel_rfl
theorem opened_at {n : Nat} {S : Nat} (hS : 1 ≤ S ∧ S ≤ 16384) (hn : 70000 < n) : ∃ (h e : Int) (q : Nat) (m : MM), law4_opened n (((S : Int), ()), ()) = some (.inl (((((), ()), ((), ()), ()), ()), (((), (), h, e, (q : Int), ()), ((S : Int), (), (), 0, 0, false, ()), m, [], [], ()))) ∧ Inv S [] h e q m ∧ q ≤ 0 ∧ Sim [] m ∧ (keys m).Nodup := by
  obtain ⟨n, rfl⟩ : ∃ k, n = k + 2 := ⟨n - 2, by omega⟩
  have hN : disk_New (n + 1) (((S : Int), ()), ()) = some (.inl (((((), ()), (ErrV.nil, ()), ()), ()), (((S : Int), (), (), 0, 0, false, ()), ([] : M), ([] : M), ()))) := by
    simp only [disk_New]
    rw [if_neg (by simp; omega), if_neg (by simp; omega)]
  obtain ⟨h, e, q, m, g1, g2, g3, g4, g5⟩ := open_at (n := n + 1) (by omega) hS.2 (c := 0) (A := 0) (q := 0) (by omega) (opened_inv (S := S)).rest
  refine ⟨h, e, q, m, ?_, g2, g3, g4, g5⟩
  simp only [law4_opened, hN]
  rw [if_neg (by decide), g1]
  simp only []
  rw [if_neg (by decide)]
end Go.Proofs.YthbbokndogjopaaGreatDoor.Pure

namespace Go.Proofs.YthbbokndogjopaaGreatDoor.Pure
open Go Go.Lib Go.Proofs.YthbbokndogjopaaGreatDoor.Cm
open Classical
set_option linter.unusedVariables false
set_option linter.unusedSimpArgs false
set_option maxRecDepth 100000
theorem strLt_total {x y : ByteArray} (h : strLt x y = false) (hne : x ≠ y) : strLt y x = true := by
  rw [strLt_eq] at h ⊢
  have h := of_decide_eq_false h
  refine decide_eq_true ?_
  rcases List.le_iff_lt_or_eq.1 (List.not_lt.1 h) with g | g
  · exact g
  · exact absurd (str_ext g.symm) hne
/-- Records, rising, with a change. -/
def insR : MM → ChT → MM
  | [], c => if c.2.2 then [] else [(c.1, c.2.1)]
  | p :: r, c => if strLt p.1 c.1 = true then p :: insR r c else (if c.2.2 then [] else [(c.1, c.2.1)]) ++ (if strEq p.1 c.1 = true then r else p :: r)
theorem insR_keys {s : ByteArray} (c : ChT) : ∀ {x : MM}, s ∈ keys (insR x c) → s = c.1 ∨ s ∈ keys x
  | [], h => by
    unfold insR at h
    split at h
    · cases h
    · exact .inl (by simpa [keys] using h)
  | p :: r, h => by
    unfold insR at h
    split at h
    · rcases List.mem_cons.1 (show s ∈ p.1 :: keys (insR r c) from h) with h | h
      · exact .inr (by rw [h]; exact .head _)
      · rcases insR_keys c h with h | h
        · exact .inl h
        · exact .inr (.tail _ h)
    · rw [keys, List.map_append, List.mem_append] at h
      rcases h with h | h
      · split at h
        · cases h
        · exact .inl (by simpa using h)
      · split at h
        · exact .inr (.tail _ h)
        · exact .inr h
theorem insR_rising (c : ChT) : ∀ {x : MM}, Rising (keys x) → Rising (keys (insR x c))
  | [], h => by
    unfold insR
    split
    · exact .nil
    · exact List.pairwise_singleton _ _
  | p :: r, h => by
    have h1 : (∀ y ∈ keys r, strLt p.1 y = true) ∧ Rising (keys r) := List.pairwise_cons.1 h
    unfold insR
    split
    · rename_i hp
      refine List.pairwise_cons.2 ⟨fun y hy => ?_, insR_rising c h1.2⟩
      rcases insR_keys c hy with hy | hy
      · rw [hy]; exact hp
      · exact h1.1 y hy
    · rename_i hp
      have hp : strLt p.1 c.1 = false := by simpa using hp
      have hrest : Rising (keys (if strEq p.1 c.1 = true then r else p :: r)) ∧ ∀ y ∈ keys (if strEq p.1 c.1 = true then r else p :: r), strLt c.1 y = true := by
        split
        · rename_i he
          refine ⟨h1.2, fun y hy => ?_⟩
          rw [← strEq_true.1 he]
          exact h1.1 y hy
        · rename_i he
          have hlt := strLt_total hp (fun e => he (strEq_true.2 e))
          refine ⟨h, fun y hy => ?_⟩
          rcases List.mem_cons.1 (show y ∈ p.1 :: keys r from hy) with hy | hy
          · rw [hy]; exact hlt
          · exact strLt_trans hlt (h1.1 y hy)
      split
      · exact hrest.1
      · exact List.pairwise_cons.2 ⟨hrest.2, hrest.1⟩
theorem mfind_insR (c : ChT) (s : ByteArray) : ∀ {x : MM}, Rising (keys x) → mfind ks s (insR x c) = if s = c.1 then (if c.2.2 = true then none else some c.2.1) else mfind ks s x
  | [], h => by
    unfold insR
    by_cases hs : s = c.1
    · rw [if_pos hs]
      split
      · rfl
      · unfold mfind
        rw [if_pos ((kq _ _).2 hs)]
    · rw [if_neg hs]
      split
      · rfl
      · unfold mfind
        rw [if_neg (fun e => hs ((kq _ _).1 e))]
        rfl
  | p :: r, h => by
    have h1 : (∀ y ∈ keys r, strLt p.1 y = true) ∧ Rising (keys r) := List.pairwise_cons.1 h
    unfold insR
    split
    · rename_i hp
      have ih := mfind_insR c s h1.2
      have e1 : mfind ks s (p :: insR r c) = if ks s p.1 = true then some p.2 else mfind ks s (insR r c) := rfl
      have e2 : mfind ks s (p :: r) = if ks s p.1 = true then some p.2 else mfind ks s r := rfl
      rw [e1, e2]
      by_cases hs : s = c.1
      · have hne : ¬ ks s p.1 = true := fun e => by
          rw [← (kq _ _).1 e, hs, strLt_irr] at hp
          cases hp
        rw [if_neg hne, ih, if_pos hs, if_pos hs]
      · rw [ih, if_neg hs, if_neg hs]
    · rename_i hp
      have hp : strLt p.1 c.1 = false := by simpa using hp
      have hrest : mfind ks s (if strEq p.1 c.1 = true then r else p :: r) = if s = c.1 then none else mfind ks s (p :: r) := by
        split
        · rename_i he
          have he := strEq_true.1 he
          by_cases hs : s = c.1
          · rw [if_pos hs]
            exact mfind_out (fun hm => by
              have := h1.1 s hm
              rw [hs, he, strLt_irr] at this
              cases this)
          · rw [if_neg hs]
            have e2 : mfind ks s (p :: r) = if ks s p.1 = true then some p.2 else mfind ks s r := rfl
            rw [e2, if_neg (fun e => hs (((kq _ _).1 e).trans he))]
        · rename_i he
          by_cases hs : s = c.1
          · rw [if_pos hs]
            have hlt := strLt_total hp (fun e => he (strEq_true.2 e))
            refine mfind_out (fun hm => ?_)
            rcases List.mem_cons.1 (show s ∈ p.1 :: keys r from hm) with hm | hm
            · rw [← hm, hs, strLt_irr] at hlt; cases hlt
            · have := strLt_trans hlt (h1.1 s hm)
              rw [hs, strLt_irr] at this
              cases this
          · rw [if_neg hs]
      by_cases hg : c.2.2 = true
      · rw [if_pos hg, List.nil_append, hrest, if_pos hg]
      · rw [if_neg hg, if_neg hg]
        show (if ks s c.1 = true then some c.2.1 else mfind ks s (if strEq p.1 c.1 = true then r else p :: r)) = _
        by_cases hs : s = c.1
        · rw [if_pos ((kq _ _).2 hs), if_pos hs]
        · rw [if_neg (fun e => hs ((kq _ _).1 e)), hrest, if_neg hs, if_neg hs]
theorem insR_recs {m : MM} (h : (keys m).Nodup) (c : ChT) : insR (recs m) c = recs (apC m c) :=
  rec_eq (insR_rising c (recs_rising h)) (recs_rising (apC_nodup h c)) (fun s => by rw [mfind_insR c s (recs_rising h), mfind_recs, mfind_recs, mfind_apC h])
theorem insR_len (c : ChT) : ∀ x : MM, (insR x c).length ≤ x.length + 1
  | [] => by
    unfold insR
    split <;> simp
  | p :: r => by
    have ih := insR_len c r
    unfold insR
    split
    · simp only [List.length_cons]; omega
    · rw [List.length_append]
      have h1 : (if c.2.2 = true then [] else [(c.1, c.2.1)] : MM).length ≤ 1 := by split <;> simp
      have h2 : (if strEq p.1 c.1 = true then r else p :: r).length ≤ r.length + 1 := by split <;> simp
      simp only [List.length_cons]
      omega
/-- How many go ahead. -/
def cntL : MM → ByteArray → Nat
  | [], _ => 0
  | p :: r, s => if strLt p.1 s = true then cntL r s + 1 else 0
theorem cntL_le (s : ByteArray) : ∀ x : MM, cntL x s ≤ x.length
  | [] => Nat.le_refl _
  | p :: r => by
    have := cntL_le s r
    unfold cntL
    split
    · simp only [List.length_cons]; omega
    · omega
def newR (c : ChT) : MM := if c.2.2 then [] else [(c.1, c.2.1)]
theorem insR_cut (c : ChT) : ∀ x : MM, insR x c = (x.take (cntL x c.1) ++ newR c) ++ x.drop (if cntL x c.1 < x.length ∧ strEq (x.getD (cntL x c.1) (Ty.dflt ty5)).1 c.1 = true then cntL x c.1 + 1 else cntL x c.1)
  | [] => by
    show newR c = ([] ++ newR c) ++ List.drop _ []
    rw [List.drop_nil, List.append_nil]
    rfl
  | p :: r => by
    unfold insR cntL
    by_cases h : strLt p.1 c.1 = true
    · rw [if_pos h, if_pos h, insR_cut c r, List.take_succ_cons]
      have hgd : (p :: r).getD (cntL r c.1 + 1) (Ty.dflt ty5) = r.getD (cntL r c.1) (Ty.dflt ty5) := by simp
      rw [hgd]
      by_cases h2 : cntL r c.1 < r.length ∧ strEq (r.getD (cntL r c.1) (Ty.dflt ty5)).1 c.1 = true
      · rw [if_pos h2, if_pos ⟨by simp only [List.length_cons]; omega, h2.2⟩, List.drop_succ_cons]
        rfl
      · rw [if_neg h2, if_neg (fun e => h2 ⟨by have := e.1; simp only [List.length_cons] at this; omega, e.2⟩), List.drop_succ_cons]
        rfl
    · rw [if_neg h, if_neg h]
      show newR c ++ _ = _
      by_cases h2 : strEq p.1 c.1 = true
      · rw [if_pos h2, if_pos ⟨by simp, by simpa using h2⟩]
        simp
      · rw [if_neg h2, if_neg (fun e => h2 (by simpa using e.2))]
        simp
theorem lput_at {n : Nat} (hn : 4000 < n) (x : MM) (hx : x.length ≤ 1000) (c1 c2 : ByteArray) (c3 : Bool) : law4_put n ((x, (c1, c2, c3, ()), ()), ()) = some (((), ()), (insR x (c1, c2, c3), ())) := by
  obtain ⟨n, rfl⟩ : ∃ m, n = m + 1 := ⟨n - 1, by omega⟩
  have hle := cntL_le c1 x
  have main : ∀ d i k, i + d = x.length → d < k → i + cntL (x.drop i) c1 = cntL x c1 → law4_put_l2 n k ((x, (), (i : Int), ()), ((c1, c2, c3, ()), ())) = some (.inl ((x, (), (cntL x c1 : Int), ()), ((c1, c2, c3, ()), ()))) := by
    intro d
    induction d with
    | zero =>
      intro i k hi hk hc
      obtain ⟨k, rfl⟩ : ∃ m, k = m + 1 := ⟨k - 1, by omega⟩
      rw [List.drop_of_length_le (by omega)] at hc
      have hc : i = cntL x c1 := hc
      simp only [law4_put_l2]
      rw [if_neg (by simp; omega), hc]
    | succ d ih =>
      intro i k hi hk hc
      obtain ⟨k, rfl⟩ : ∃ m, k = m + 1 := ⟨k - 1, by omega⟩
      have hlt : i < x.length := by omega
      have hd : x.drop i = x.getD i (Ty.dflt ty5) :: x.drop (i + 1) := by
        rw [List.drop_eq_getElem_cons hlt, List.getD_eq_getElem?_getD, List.getElem?_eq_getElem hlt]
        rfl
      rw [hd, show cntL (x.getD i (Ty.dflt ty5) :: x.drop (i + 1)) c1 = if strLt (x.getD i (Ty.dflt ty5)).1 c1 = true then cntL (x.drop (i + 1)) c1 + 1 else 0 from rfl] at hc
      simp only [law4_put_l2]
      rw [if_pos (decide_eq_true (show (i : Int) < (x.length : Int) by omega)), if_pos (show 0 ≤ (i : Int) ∧ (i : Int) < (x.length : Int) from ⟨by omega, by omega⟩), rdT_nat]
      by_cases hs : strLt (x.getD i (Ty.dflt ty5)).1 c1 = true
      · rw [if_pos hs] at hc ⊢
        rw [w64_up i (by omega)]
        exact ih (i + 1) k (by omega) (by omega) (by omega)
      · rw [if_neg hs] at hc ⊢
        have hc : i = cntL x c1 := by omega
        rw [← hc]
  have h0 := main x.length 0 n (by omega) (by omega) (by rw [List.drop_zero]; omega)
  simp only [law4_put]
  rw [show law4_put_l2 n n ((x, (), 0, ()), ((c1, c2, c3, ()), ())) = _ from h0]
  simp only []
  have hv : IntKind.i64.wrap ((x.length : Int) + 1) = ((x.length + 1 : Nat) : Int) := w64_up _ (by omega)
  have hcut : cutL x 0 (cntL x c1 : Int) = x.take (cntL x c1) := by
    unfold cutL
    rw [Int.toNat_natCast, Int.toNat_zero, List.drop_zero]
  have ht : (x.take (cntL x c1)).length ≤ 1000 := by rw [List.length_take]; omega
  rw [if_pos (show 0 ≤ (0 : Int) ∧ (0 : Int) ≤ IntKind.i64.wrap ((x.length : Int) + 1) ∧ IntKind.i64.wrap ((x.length : Int) + 1) * ((32 : Nat) : Int) ≤ 140737488355328 ∧ IntKind.i64.wrap ((x.length : Int) + 1) ≤ 140737488355328 from by rw [hv]; exact ⟨by omega, by omega, by omega, by omega⟩), if_pos (show 0 ≤ (cntL x c1 : Int) ∧ (cntL x c1 : Int) ≤ (x.length : Int) from ⟨by omega, by omega⟩), hcut, if_pos (by simp only [List.length_append, List.length_replicate, Int.toNat_zero]; omega)]
  have hrep : List.replicate (0 : Int).toNat ((⟨#[]⟩ : ByteArray), (⟨#[]⟩ : ByteArray)) ++ x.take (cntL x c1) = x.take (cntL x c1) := rfl
  rw [hrep]
  have hc7 : law4_put_c7 n ((x, (), (cntL x c1 : Int), (), ()), ((c1, c2, c3, ()), x.take (cntL x c1), ())) = some (.inl ((x, (), (cntL x c1 : Int), (), ()), ((c1, c2, c3, ()), x.take (cntL x c1) ++ newR (c1, c2, c3), ()))) := by
    simp only [law4_put_c7]
    unfold newR
    cases c3 with
    | true => rw [if_neg (by decide), if_pos rfl, List.append_nil]
    | false => rw [if_pos (by decide), if_pos (by simp only [List.length_cons, List.length_nil]; omega), if_neg (by simp)]
  rw [hc7]
  simp only []
  have hcut2 := insR_cut (c1, c2, c3) x
  have hnl : (newR (c1, c2, c3)).length ≤ 1 := by unfold newR; split <;> simp
  have fin : ∀ j : Nat, j ≤ x.length → (0 ≤ (j : Int) ∧ (j : Int) ≤ (x.length : Int)) ∧ cutL x (j : Int) (x.length : Int) = x.drop j := fun j hj => by
    refine ⟨⟨by omega, by omega⟩, ?_⟩
    unfold cutL
    rw [Int.toNat_natCast, Int.toNat_natCast, List.take_length]
  have hdl : ∀ j, (x.drop j).length ≤ 1000 := fun j => by rw [List.length_drop]; omega
  have run : ∀ j : Nat, j ≤ x.length → insR x (c1, c2, c3) = (x.take (cntL x c1) ++ newR (c1, c2, c3)) ++ x.drop j → law4_put_c9 n ((x, (), (cntL x c1 : Int), (), ()), ((c1, c2, c3, ()), x.take (cntL x c1) ++ newR (c1, c2, c3), ())) = some (.inl ((x, (j : Int), (), ()), (x.take (cntL x c1) ++ newR (c1, c2, c3), ()))) → (match law4_put_c9 n ((x, (), (cntL x c1 : Int), (), ()), ((c1, c2, c3, ()), x.take (cntL x c1) ++ newR (c1, c2, c3), ())) with
      | some (.inl ((x17, x18, _, _), (l19, _))) => (
        if 0 ≤ x18 ∧ x18 ≤ (x17.length : Int) then (
          let v20 : List ty5.T := cutL x17 x18 (x17.length : Int)
          if (l19.length + v20.length) * 32 ≤ 140737488355328 then (
            some (((), ()), (l19 ++ v20, ()))) else none) else none)
      | some (.inr (_)) => none
      | none => none : Option (OutsT law4_put_outs)) = some (((), ()), (insR x (c1, c2, c3), ())) := by
    intro j hj he hc
    rw [hc]
    simp only []
    rw [if_pos (fin j hj).1, (fin j hj).2, if_pos (show ((x.take (cntL x c1) ++ newR (c1, c2, c3)).length + (x.drop j).length) * 32 ≤ 140737488355328 by have := hdl j; rw [List.length_append]; omega), he]
  by_cases h2 : cntL x c1 < x.length ∧ strEq (x.getD (cntL x c1) (Ty.dflt ty5)).1 c1 = true
  · refine run (cntL x c1 + 1) (by omega) (by rw [hcut2, if_pos h2]) ?_
    simp only [law4_put_c9]
    rw [if_pos (decide_eq_true (show (cntL x c1 : Int) < (x.length : Int) by omega)), if_pos (show 0 ≤ (cntL x c1 : Int) ∧ (cntL x c1 : Int) < (x.length : Int) from ⟨by omega, by omega⟩), rdT_nat, if_pos h2.2, w64_up _ (by omega)]
  · refine run (cntL x c1) hle (by rw [hcut2, if_neg h2]) ?_
    simp only [law4_put_c9]
    by_cases h3 : cntL x c1 < x.length
    · rw [if_pos (decide_eq_true (show (cntL x c1 : Int) < (x.length : Int) by omega)), if_pos (show 0 ≤ (cntL x c1 : Int) ∧ (cntL x c1 : Int) < (x.length : Int) from ⟨by omega, by omega⟩), rdT_nat, if_neg (fun e => h2 ⟨h3, e⟩)]
    · rw [if_neg (by simp; omega)]
end Go.Proofs.YthbbokndogjopaaGreatDoor.Pure

namespace Go.Proofs.YthbbokndogjopaaGreatDoor.Pure
open Go Go.Lib Go.Proofs.YthbbokndogjopaaGreatDoor.Cm
open Classical
set_option linter.unusedVariables false
set_option linter.unusedSimpArgs false
set_option maxRecDepth 100000
theorem after_at {n : Nat} {m : MM} (hm : MW m) {l : List ChT} (hl : l.length ≤ 500) (hn : 5000 < n) : law4_after n ((recs m, l, ()), ()) = match bad m l with
    | some code => some ((((recs m, ()), (((code : Nat) : Int), ()), ()), ()), ())
    | none => some ((((recs (appl m l), ()), (0, ()), ()), ()), ()) := by
  obtain ⟨n, rfl⟩ : ∃ m, n = m + 1 := ⟨n - 1, by omega⟩
  generalize hx : recs m = x
  have a := for_inv (F := law4_after_l2 n) (len := l.length) (st := fun i => ((x, l, (i : Int), ()), ())) (fun i => (l.take i).all okK = true)
    (fun r => (r = some (.inl ((x, l, ()), ())) ∧ l.all okK = true) ∨ (r = some (.inr (.inl ((x, 104, ()), ()))) ∧ l.all okK = false)) (by simp) (fun i k hi hI => by
      simp only [law4_after_l2]
      rw [if_pos (decide_eq_true (show (i : Int) < (l.length : Int) by omega)), if_pos (show 0 ≤ (i : Int) ∧ (i : Int) < (l.length : Int) from ⟨by omega, by omega⟩), rdT_nat, w64_up i (by omega)]
      by_cases h1 : ((l.getD i (Ty.dflt ty0)).1.size : Int) < 1
      · rw [if_pos (decide_eq_true h1)]
        refine .inr (.inr ⟨rfl, all_false hi (Ty.dflt ty0) ?_⟩)
        unfold okK
        rw [decide_eq_false (by omega)]
        rfl
      · rw [if_neg (by simpa using h1), if_pos (show 0 ≤ (i : Int) ∧ (i : Int) < (l.length : Int) from ⟨by omega, by omega⟩)]
        by_cases h2 : ((l.getD i (Ty.dflt ty0)).1.size : Int) > 40
        · rw [if_pos (decide_eq_true h2)]
          refine .inr (.inr ⟨rfl, all_false hi (Ty.dflt ty0) ?_⟩)
          unfold okK
          rw [decide_eq_false (show ¬ (l.getD i (Ty.dflt ty0)).1.size ≤ 40 by omega), Bool.and_false]
        · rw [if_neg (by simpa using h2)]
          refine .inl ⟨all_take hi (Ty.dflt ty0) hI ?_, rfl⟩
          unfold okK
          rw [decide_eq_true (by omega), decide_eq_true (by omega)]
          rfl) (fun k hI => by
      rw [List.take_length] at hI
      refine .inl ⟨?_, hI⟩
      simp only [law4_after_l2]
      rw [if_neg (by simp)]) n (by omega)
  have b := for_inv (F := law4_after_l7 n) (len := l.length) (st := fun i => ((x, l, (i : Int), ()), ())) (fun i => (l.take i).all okV = true)
    (fun r => (r = some (.inl ((x, l, ()), ())) ∧ l.all okV = true) ∨ (r = some (.inr (.inl ((x, 103, ()), ()))) ∧ l.all okV = false)) (by simp) (fun i k hi hI => by
      simp only [law4_after_l7]
      rw [if_pos (decide_eq_true (show (i : Int) < (l.length : Int) by omega)), if_pos (show 0 ≤ (i : Int) ∧ (i : Int) < (l.length : Int) from ⟨by omega, by omega⟩), rdT_nat, w64_up i (by omega)]
      by_cases h1 : ((l.getD i (Ty.dflt ty0)).2.1.size : Int) > 32768
      · rw [if_pos (decide_eq_true h1)]
        refine .inr (.inr ⟨rfl, all_false hi (Ty.dflt ty0) ?_⟩)
        unfold okV
        rw [decide_eq_false (by omega)]
      · rw [if_neg (by simpa using h1)]
        refine .inl ⟨all_take hi (Ty.dflt ty0) hI ?_, rfl⟩
        unfold okV
        rw [decide_eq_true (by omega)]) (fun k hI => by
      rw [List.take_length] at hI
      refine .inl ⟨?_, hI⟩
      simp only [law4_after_l7]
      rw [if_neg (by simp)]) n (by omega)
  have hxl : x.length ≤ 256 := by rw [← hx, recs_len]; exact hm.1
  have hlen : ∀ i, i ≤ l.length → ((l.take i).foldl insR x).length ≤ 256 + i := fun i => by
    induction i with
    | zero => intro _; simp; exact hxl
    | succ i ih =>
      intro hi
      rw [take_succ l i (by omega) (Ty.dflt ty0), List.foldl_append]
      have h1 := ih (by omega)
      have h2 := insR_len (l.getD i (Ty.dflt ty0)) ((l.take i).foldl insR x)
      show (insR _ _).length ≤ _
      omega
  have c := for_all (F := law4_after_l13 n) (len := l.length) (fun i => ((x, l, (l.take i).foldl insR x, (i : Int), ()), ())) (r := some (.inl ((x, l.foldl insR x, ()), ()))) (fun i k hi => by
      have hll := hlen i (by omega)
      simp only [law4_after_l13]
      rw [if_pos (decide_eq_true (show (i : Int) < (l.length : Int) by omega)), if_pos (show 0 ≤ (i : Int) ∧ (i : Int) < (l.length : Int) from ⟨by omega, by omega⟩), rdT_nat, w64_up i (by omega), take_succ l i hi (Ty.dflt ty0), List.foldl_append]
      rw [show law4_put n (((l.take i).foldl insR x, ((l.getD i (Ty.dflt ty0)).1, (l.getD i (Ty.dflt ty0)).2.1, (l.getD i (Ty.dflt ty0)).2.2, ()), ()), ()) = _ from lput_at (by omega) _ (by omega) _ _ _]
      rfl) (fun k => by
    simp only [law4_after_l13]
    rw [if_neg (by simp), List.take_length]) (k := n) (by omega)
  have hf : ∀ (l : List ChT) (m : MM), (keys m).Nodup → l.foldl insR (recs m) = recs (appl m l) := fun l => by
    induction l with
    | nil => intro m h; rfl
    | cons c l ih =>
      intro m h
      show l.foldl insR (insR (recs m) c) = _
      rw [insR_recs h, ih _ (apC_nodup h c)]
      rfl
  have hf := hf l m hm.2.2
  rw [hx] at hf
  rw [hf] at c
  simp only [law4_after]
  unfold bad
  rcases a with ⟨a, ha⟩ | ⟨a, ha⟩
  · rw [show law4_after_l2 n n ((x, l, 0, ()), ()) = _ from a, if_neg (by rw [ha]; decide)]
    simp only []
    rcases b with ⟨b, hb⟩ | ⟨b, hb⟩
    · rw [show law4_after_l7 n n ((x, l, 0, ()), ()) = _ from b, if_neg (by rw [hb]; decide)]
      simp only []
      rw [show law4_after_l13 n n ((x, l, x, 0, ()), ()) = _ from c]
      simp only []
      have hrl := recs_len (appl m l)
      by_cases h3 : 256 < (appl m l).length
      · rw [if_pos h3, if_pos (decide_eq_true (show ((recs (appl m l)).length : Int) > 256 by omega))]
        rfl
      · rw [if_neg h3, if_neg (by simp; omega)]
    · rw [show law4_after_l7 n n ((x, l, 0, ()), ()) = _ from b, if_pos hb]
      rfl
  · rw [show law4_after_l2 n n ((x, l, 0, ()), ()) = _ from a, if_pos ha]
    rfl
theorem is_nil {n : Nat} (hn : 50 ≤ n) : pendulumsee_Is n ((ErrV.nil, 0, ()), ()) = some ((true, ()), ()) := by
  obtain ⟨n, rfl⟩ : ∃ m, n = m + 50 := ⟨n - 50, by omega⟩
  kernel_rfl
theorem is_103 {n : Nat} (hn : 50 ≤ n) : pendulumsee_Is n ((ErrV.sent 103, 103, ()), ()) = some ((true, ()), ()) := by
  obtain ⟨n, rfl⟩ : ∃ m, n = m + 50 := ⟨n - 50, by omega⟩
  kernel_rfl
theorem is_104 {n : Nat} (hn : 50 ≤ n) : pendulumsee_Is n ((ErrV.sent 104, 104, ()), ()) = some ((true, ()), ()) := by
  obtain ⟨n, rfl⟩ : ∃ m, n = m + 50 := ⟨n - 50, by omega⟩
  kernel_rfl
theorem is_bad {n : Nat} (hn : 50 ≤ n) {m : MM} {l : List ChT} {code : Nat} (h : bad m l = some code) : pendulumsee_Is n ((ErrV.sent code, ((code : Nat) : Int), ()), ()) = some ((true, ()), ()) := by
  unfold bad at h
  split at h
  · cases h; exact is_104 hn
  · split at h
    · cases h; exact is_103 hn
    · split at h
      · cases h; exact is_103 hn
      · cases h
/-- Has a store just these? -/
theorem same_at {n : Nat} (hn : 3000 < n) (hh e q : Int) (D : Int × Unit × Unit × Int × Int × Bool × Unit) {m : MM} (hm : MW m) (f p : M) (x : MM) (hx : x.length ≤ 1000) :
    law4_same n (((), x, ()), (((), (), hh, e, q, ()), D, m, f, p, ())) = some ((decide (recs m = x), ()), (((), (), hh, e, q, ()), D, m, f, p, ())) := by
  obtain ⟨n, rfl⟩ : ∃ m, n = m + 2 := ⟨n - 2, by omega⟩
  obtain ⟨d1, d2, d3, d4, d5, d6, d7⟩ := D
  have hK : jour_Store_Keys (n + 1) (((), ()), (((), (), hh, e, q, ()), (d1, d2, d3, d4, d5, d6, d7), m, f, p, ())) = some (((), ()), (((), (), hh, e, q, ()), (d1, d2, d3, d4, d5, d6, d7), m, f, p, sortS (keysM m), ())) := by
    have hK : maps_Keys_map_string_string_string_string n (((), ()), (m, ())) = some (((), ()), (m, ((), ()), ())) := by
      obtain ⟨n, rfl⟩ : ∃ k, n = k + 1 := ⟨n - 1, by omega⟩
      rfl
    simp only [jour_Store_Keys, hK, sorted_at hm.mi]
  have hsl : (sortS (keysM m)).length = m.length := by rw [(sortS_perm _).length_eq, List.length_map]
  have hml := hm.1
  simp only [law4_same, hK]
  by_cases hlen : m.length = x.length
  · rw [if_neg (by rw [hsl]; simp [hlen])]
    have a := for_inv (F := law4_same_l5 (n + 1)) (len := x.length) (st := fun i => (((), x, (), (i : Int), ()), (((), (), hh, e, q, ()), (d1, d2, d3, d4, d5, d6, d7), m, f, p, sortS (keysM m), ()))) (fun i => (recs m).take i = x.take i)
      (fun r => (r = some (.inl ((), (((), (), hh, e, q, ()), (d1, d2, d3, d4, d5, d6, d7), m, f, p, ()))) ∧ recs m = x) ∨ (r = some (.inr (.inl ((false, ()), (((), (), hh, e, q, ()), (d1, d2, d3, d4, d5, d6, d7), m, f, p, ())))) ∧ recs m ≠ x)) (by simp) (fun i k hi hI => by
        have hG : ∀ s : ByteArray, jour_Store_Get (n + 1) (((), s, ()), (((), (), hh, e, q, ()), (d1, d2, d3, d4, d5, d6, d7), m, f, p, ())) = some (((((mfind ks s m).getD (⟨#[]⟩ : ByteArray), ()), ((mfind ks s m).isSome, ()), ()), ()), (((), (), hh, e, q, ()), (d1, d2, d3, d4, d5, d6, d7), m, f, p, ())) := fun s => rfl
        have hks : i < (sortS (keysM m)).length := by omega
        have hrec : (recs m).getD i (Ty.dflt ty5) = ((sortS (keysM m)).getD i (Ty.dflt .str), getM m ((sortS (keysM m)).getD i (Ty.dflt .str))) := by
          unfold recs
          rw [List.getD_eq_getElem?_getD, List.getElem?_map, List.getElem?_eq_getElem hks, List.getD_eq_getElem?_getD, List.getElem?_eq_getElem hks]
          rfl
        have hmem : (sortS (keysM m)).getD i (Ty.dflt .str) ∈ keys m := (sortS_perm _).mem_iff.1 (getD_mem _ _ hks _)
        rw [law4_same_l5, if_pos (decide_eq_true (show (i : Int) < (x.length : Int) by omega)), if_pos (show 0 ≤ (i : Int) ∧ (i : Int) < (x.length : Int) from ⟨by omega, by omega⟩), hG]
        simp only []
        rw [if_pos (show 0 ≤ (i : Int) ∧ (i : Int) < ((sortS (keysM m)).length : Int) from ⟨by omega, by omega⟩), if_pos (show 0 ≤ (i : Int) ∧ (i : Int) < (x.length : Int) from ⟨by omega, by omega⟩), rdT_nat, rdT_nat]
        generalize hs : (sortS (keysM m)).getD i (Ty.dflt .str) = s at hrec hmem
        generalize hr : x.getD i (Ty.dflt ty5) = r
        obtain ⟨r1, r2⟩ := r
        simp only []
        by_cases h1 : s = r1
        · subst h1
          have hsome : (mfind ks s m).isSome = true := mfind_in.2 hmem
          rw [if_neg (by rw [strEq_true.2 rfl]; decide), hsome, if_neg (by decide), if_pos (show 0 ≤ (i : Int) ∧ (i : Int) < (x.length : Int) from ⟨by omega, by omega⟩)]
          by_cases h2 : getM m s = r2
          · refine .inl ⟨take_eq_succ hI (by rw [recs_len]; omega) hi (Ty.dflt ty5) (by rw [hrec, hr, h2]), ?_⟩
            rw [if_neg (by rw [strEq_true.2 (show (mfind ks s m).getD (⟨#[]⟩ : ByteArray) = r2 from h2)]; decide), w64_up i (by omega)]
          · refine .inr (.inr ⟨?_, ne_of_getD (i := i) (Ty.dflt ty5) (by rw [hrec, hr]; exact fun e => h2 (Prod.mk.inj e).2)⟩)
            rw [if_pos (by
              have : strEq ((mfind ks s m).getD (⟨#[]⟩ : ByteArray)) r2 = false := by
                rw [strEq_iff]
                exact decide_eq_false h2
              rw [this]
              decide)]
        · refine .inr (.inr ⟨?_, ne_of_getD (i := i) (Ty.dflt ty5) (by rw [hrec, hr]; exact fun e => h1 (Prod.mk.inj e).1)⟩)
          rw [if_pos (by
            have : strEq s r1 = false := by
              rw [strEq_iff]
              exact decide_eq_false h1
            rw [this]
            decide)]) (fun k hI => by
      have hI : recs m = x := by
        rw [List.take_length] at hI
        rw [← hI, List.take_of_length_le]
        rw [recs_len]
        omega
      refine .inl ⟨?_, hI⟩
      rw [law4_same_l5, if_neg (by simp)]) (n + 1) (by omega)
    rcases a with ⟨a, ha⟩ | ⟨a, ha⟩
    · rw [show law4_same_l5 (n + 1) (n + 1) (((), x, (), 0, ()), (((), (), hh, e, q, ()), (d1, d2, d3, d4, d5, d6, d7), m, f, p, sortS (keysM m), ())) = _ from a, decide_eq_true ha]
    · rw [show law4_same_l5 (n + 1) (n + 1) (((), x, (), 0, ()), (((), (), hh, e, q, ()), (d1, d2, d3, d4, d5, d6, d7), m, f, p, sortS (keysM m), ())) = _ from a, decide_eq_false ha]
  · rw [if_pos (by rw [hsl]; simp; omega), decide_eq_false (fun e => hlen (by rw [← e, recs_len]))]
end Go.Proofs.YthbbokndogjopaaGreatDoor.Pure

namespace Go.Proofs.YthbbokndogjopaaGreatDoor.Pure
open Go Go.Lib Go.Proofs.YthbbokndogjopaaGreatDoor.Cm
open Classical
set_option linter.unusedVariables false
set_option linter.unusedSimpArgs false
set_option maxRecDepth 100000
/-- A Commit that changes something, under an arm: it is done, or the power goes in it. -/
theorem commit_arm {n : Nat} (hn : 60000 < n) {S : Nat} (hS : S ≤ 16384) {c : Int} (hc : 0 ≤ c ∧ c < 100000000) {h e : Int} {q : Nat} (hq : q < 1000000) {m : MM} (hm : MW m) {f : M} {L : Nat} (hf : Fl S f L) (hL : L ≤ 450000) (I : Inv S f h e q m) {l : List ChT} (hl : l.length ≤ 1000) (hb : bad m l = none) (he : equalM (appl m l) m = false) {A : Nat} (hA : A < 1000) (hroom : secs (by_ 0 (dump (appl m l))).length ≤ S / 2) :
    (∃ (h' e' c' : Int) (f' : M) (A' : Nat), jour_Store_Commit n (((), l, ()), (((), (), h, e, (q : Int), ()), ((S : Int), (), (), c, (A : Int), false, ()), m, f, [], ())) = some (.inr (((ErrV.nil, ()), (((), (), h', e', ((q + 1 : Nat) : Int), ()), ((S : Int), (), (), c', (A' : Int), false, ()), m, f', [], appl m l, ())))) ∧ Inv S f' h' e' (q + 1) (appl m l) ∧ Fl S f' (L + S) ∧ c ≤ c' ∧ c' ≤ c + S + 1) ∨
    (∃ (p t : Nat) (b : List Int) (h' e' c' : Int), CallAt S h e m (appl m l) p b h' e' ∧ p + secs b.length ≤ S ∧ t ≤ secs b.length ∧ c ≤ c' ∧ c' ≤ c + S + 1 ∧ A = t + 1 ∧ jour_Store_Commit n (((), l, ()), (((), (), h, e, (q : Int), ()), ((S : Int), (), (), c, (A : Int), false, ()), m, f, [], ())) = some (.inl ((ErrV.sent 119, ()), (((), (), h, e, ((q + 1 : Nat) : Int), ()), ((S : Int), (), (), c', 0, true, ()), m, f, wp p ((q + 1 : Nat) : Int) b t, ())))) := by
  have hp : ∃ r, plan S h e m l = some r := by
    unfold plan planA
    rw [if_pos hroom]
    split
    · exact ⟨_, rfl⟩
    · exact ⟨_, rfl⟩
  obtain ⟨r, hp⟩ := hp
  have hr := (plan_room I.at_ hp).1
  have hC := call_plan hl hb hp
  have hsz := hC.size (hm.appl hb)
  by_cases hF : Fine A (secs r.2.1.length + 1)
  · refine .inl ?_
    have hW2 : ∀ n', 40000 < n' → jour_Store_write n' (((), (r.1 : Int), r.2.1, ()), (((), (), h, e, (q : Int), ()), ((S : Int), (), (), c, (A : Int), false, ()), m, f, [], ())) = some ((ErrV.nil, ()), (((), (), h, e, ((q + 1 : Nat) : Int), ()), ((S : Int), (), (), c + (secs r.2.1.length : Int) + 1, ((A - (secs r.2.1.length + 1) : Nat) : Int), false, ()), m, mergeM f (wp r.1 ((q + 1 : Nat) : Int) r.2.1 (secs r.2.1.length)), [], ())) := fun n' h2 =>
      write_at (n := n') (by omega) (S := (S : Int)) (by omega) (at_ := r.1) r.2.1 hsz (by omega) hc (q := (q : Int)) (by omega) h e m hf (by omega) (A := A) (by omega) hF
    have := commit_via (n := n) (by omega) hS (c := c) (A := (A : Int)) (q := (q : Int)) I.at_ hm.mi (f := f) (p := []) hl hb he (er := ErrV.nil) (fun r' n' h1 h2 => by
      rw [hp] at h1
      cases h1
      exact hW2 n' h2)
    rw [hp] at this
    refine ⟨_, _, _, _, _, this, I.step hS (by omega) hm (hm.appl hb) hC (over_wr f r.1 (q + 1) r.2.1), ?_, by omega, by omega⟩
    have := hf.wr (p := r.1) (q := ((q + 1 : Nat) : Int)) (b := r.2.1) (by omega)
    exact ⟨this.k, by have := this.len; omega⟩
  · refine .inr ?_
    unfold Fine at hF
    obtain ⟨t, rfl⟩ : ∃ t, A = t + 1 := ⟨A - 1, by omega⟩
    have hW2 : ∀ n', 40000 < n' → jour_Store_write n' (((), (r.1 : Int), r.2.1, ()), (((), (), h, e, (q : Int), ()), ((S : Int), (), (), c, ((t + 1 : Nat) : Int), false, ()), m, f, [], ())) = some ((ErrV.sent 119, ()), (((), (), h, e, ((q + 1 : Nat) : Int), ()), ((S : Int), (), (), c + (t : Int), 0, true, ()), m, f, wp r.1 ((q + 1 : Nat) : Int) r.2.1 t, ())) := fun n' h2 =>
      write_fell (n := n') (by omega) (S := (S : Int)) (by omega) (at_ := r.1) r.2.1 hsz (by omega) hc (q := (q : Int)) (by omega) h e m f (by omega)
    have := commit_via (n := n) (by omega) hS (c := c) (A := ((t + 1 : Nat) : Int)) (q := (q : Int)) I.at_ hm.mi (f := f) (p := []) hl hb he (er := ErrV.sent 119) (fun r' n' h1 h2 => by
      rw [hp] at h1
      cases h1
      exact hW2 n' h2)
    rw [hp] at this
    exact ⟨r.1, t, r.2.1, r.2.2.1, r.2.2.2, _, hC, hr, by omega, by omega, by omega, rfl, this⟩
/-! ### the power goes -/
/-- Picked: the k-th of them. -/
def pick (picks : List Int) (k : Nat) : Bool := decide (k < picks.length) && (bitsOp .and .i64 (picks.getD k 0) 1 == 1)
def cstep (p : M) (ks picks : List Int) (f : M) (k : Nat) : M := if pick picks k = true then mset ki (ks.getD k 0) ((mfind ki (ks.getD k 0) p).getD []) f else f
def cgo (f p : M) (ks picks : List Int) (k : Nat) : M := (List.range k).foldl (cstep p ks picks) f
theorem cgo_succ (f p : M) (ks picks : List Int) (k : Nat) : cgo f p ks picks (k + 1) = cstep p ks picks (cgo f p ks picks k) k := by
  unfold cgo
  rw [List.range_succ, List.foldl_append]
  rfl
def keysZ (p : M) : List Int := sortZ (p.map Prod.fst)
theorem keysZ_len (p : M) : (keysZ p).length = p.length := by unfold keysZ; rw [(sortZ_perm _).length_eq, List.length_map]
theorem cgo_find (f p : M) (ks picks : List Int) (x : Int) : ∀ k, mfind ki x (cgo f p ks picks k) = if ∃ j, j < k ∧ ks.getD j 0 = x ∧ pick picks j = true then some ((mfind ki x p).getD []) else mfind ki x f
  | 0 => by
    rw [if_neg (by rintro ⟨j, h, -⟩; omega)]
    rfl
  | k + 1 => by
    have ih := cgo_find f p ks picks x k
    rw [cgo_succ]
    unfold cstep
    by_cases hp : pick picks k = true
    · rw [if_pos hp, mfind_msetI]
      by_cases hx : x = ks.getD k 0
      · rw [if_pos hx, if_pos ⟨k, by omega, hx.symm, hp⟩, hx]
      · rw [if_neg hx, ih]
        by_cases h : ∃ j, j < k ∧ ks.getD j 0 = x ∧ pick picks j = true
        · obtain ⟨j, h1, h2⟩ := h
          rw [if_pos ⟨j, h1, h2⟩, if_pos ⟨j, by omega, h2⟩]
        · rw [if_neg h, if_neg (by
            rintro ⟨j, h1, h2, h3⟩
            by_cases e : j = k
            · subst e; exact hx h2.symm
            · exact h ⟨j, by omega, h2, h3⟩)]
    · rw [if_neg hp, ih]
      by_cases h : ∃ j, j < k ∧ ks.getD j 0 = x ∧ pick picks j = true
      · obtain ⟨j, h1, h2⟩ := h
        rw [if_pos ⟨j, h1, h2⟩, if_pos ⟨j, by omega, h2⟩]
      · rw [if_neg h, if_neg (by
          rintro ⟨j, h1, h2, h3⟩
          by_cases e : j = k
          · subst e; exact hp h3
          · exact h ⟨j, by omega, h2, h3⟩)]
theorem cgo_fl {S : Int} {f p : M} {L : Nat} {picks ks : List Int} (hf : Fl S f L) (hk : ∀ x ∈ ks, 0 ≤ x ∧ x < S) : ∀ k, k ≤ ks.length → Fl S (cgo f p ks picks k) (L + k)
  | 0, _ => hf
  | k + 1, h => by
    have ih := cgo_fl (p := p) (picks := picks) hf hk k (by omega)
    rw [cgo_succ]
    unfold cstep
    split
    · refine ⟨fun x hx => ?_, ?_⟩
      · rcases mset_keys _ _ _ x hx with hx | hx
        · rw [hx]
          exact hk _ (getD_mem _ _ (by omega) _)
        · exact ih.k x hx
      · have := mset_len (ks.getD k 0) ((mfind ki (ks.getD k 0) p).getD []) (cgo f p ks picks k)
        have := ih.len
        omega
    · exact ⟨ih.k, by have := ih.len; omega⟩
theorem sortedZ_at {n : Nat} {S : Int} {p : M} {L : Nat} (hp : Fl S p L) (hS : S ≤ 16384) (hL : L ≤ 1000000) : slices_Sorted_53 n (((), ()), (((), ()), p, ())) = some (((), ()), (((), ()), p, keysZ p, ())) := by
  show sortedSem _ _ _ _ _ _ = _
  have := hp.len
  unfold sortedSem
  rw [if_pos (show wfKeys (V := List Int) p = true from wf_of (fun x hx => by have := hp.k x hx; omega)), if_pos (show List.length (α := Int × List Int) p ≤ 1099511627776 by omega)]
  rfl
theorem crash_at {n : Nat} (hn : 20000 < n) {S c A : Int} {d : Bool} {f p : M} {L : Nat} {picks : List Int} (hp : Fl S p L) (hS : S ≤ 16384) (hL : L ≤ 16384) :
    disk_Disk_Crash n (((), picks, ()), ((S, (), (), c, A, d, ()), f, p, ())) = some (((), ()), ((S, (), (), c, 0, false, ()), cgo f p (keysZ p) picks p.length, [], ())) := by
  obtain ⟨n, rfl⟩ : ∃ k, n = k + 2 := ⟨n - 2, by omega⟩
  have hpl := hp.len
  have hkl := keysZ_len p
  have hK : maps_Keys_map_int_byte_int_byte (n + 1) (((), ()), (p, ())) = some (((), ()), (p, ((), ()), ())) := rfl
  simp only [disk_Disk_Crash, hK, sortedZ_at hp hS (by omega)]
  have h := for_all (F := disk_Disk_Crash_l1 (n + 1)) (len := (keysZ p).length) (fun i => (((), picks, (), ((keysZ p).length : Int), (i : Int), ()), ((S, (), (), c, A, d, ()), cgo f p (keysZ p) picks i, p, keysZ p, ()))) (r := some (.inl (((), ()), ((S, (), (), c, A, d, ()), cgo f p (keysZ p) picks (keysZ p).length, p, ())))) (fun i k hi => by
    simp only [disk_Disk_Crash_l1]
    rw [if_pos (decide_eq_true (show (i : Int) < ((keysZ p).length : Int) by omega)), if_pos (show (0 : Int) ≤ (i : Int) ∧ (i : Int) < ((keysZ p).length : Int) by omega), cgo_succ]
    simp only [rdT_nat, w64_up i (by omega)]
    unfold cstep pick
    by_cases h1 : i < picks.length
    · rw [if_pos (decide_eq_true (show (i : Int) < (picks.length : Int) by omega)), if_pos (show (0 : Int) ≤ (i : Int) ∧ (i : Int) < (picks.length : Int) by omega), decide_eq_true h1, Bool.true_and]
      by_cases h2 : (bitsOp .and .i64 (picks.getD i 0) 1 == 1) = true
      · rw [if_pos h2]
        exact (if_pos h2).trans rfl
      · rw [if_neg h2]
        exact (if_neg h2).trans rfl
    · rw [if_neg (by simpa using h1), decide_eq_false h1, Bool.false_and, if_neg (by decide)]) (fun k => by
    simp only [disk_Disk_Crash_l1]
    rw [if_neg (by simp)]) (k := n + 1) (by omega)
  rw [show disk_Disk_Crash_l1 (n + 1) (n + 1) (((), picks, (), ((keysZ p).length : Int), 0, ()), ((S, (), (), c, A, d, ()), f, p, keysZ p, ())) = _ from h, hkl]
/-- What a crash keeps of a call's sectors. -/
def kept (a : Nat) (q : Int) (b : List Int) (t : Nat) (picks : List Int) (i : Nat) : Prop := ∃ j, j < t ∧ (keysZ (wp a q b t)).getD j 0 = ((a + i : Nat) : Int) ∧ pick picks j = true
theorem wp_keys_len (a : Nat) (q : Int) (b : List Int) : ∀ t, (wp a q b t).length = t
  | 0 => rfl
  | t + 1 => by
    have ih := wp_keys_len a q b t
    have key : ∀ (m : M) (k : Int) (v : List Int), (∀ x ∈ m.map Prod.fst, x < k) → (mset ki k v m).length = m.length + 1 := by
      intro m k v
      induction m with
      | nil => intro _; rfl
      | cons p m ih2 =>
        intro h
        unfold mset
        rw [if_neg (fun e => by
          have h1 := h p.1 (by simp)
          have h2 : k = p.1 := (kiq _ _).1 e
          omega)]
        simp only [List.length_cons]
        rw [ih2 (fun x hx => h x (by simp only [List.map_cons, List.mem_cons]; exact .inr hx))]
    show (mset ki _ _ (wp a q b t)).length = _
    rw [key _ _ _ (fun x hx => by have := wp_keys a q b t x hx; omega), ih]
theorem crash_over {f : M} {a Q : Nat} {b : List Int} {t : Nat} (ht : t ≤ secs b.length) (picks : List Int) : Over f (cgo f (wp a (Q : Int) b t) (keysZ (wp a (Q : Int) b t)) picks (wp a (Q : Int) b t).length) a Q b (kept a (Q : Int) b t picks) := by
  have hmem : ∀ j, j < t → (keysZ (wp a (Q : Int) b t)).getD j 0 ∈ (wp a (Q : Int) b t).map Prod.fst := fun j hj =>
    (sortZ_perm _).mem_iff.1 (getD_mem _ _ (by show j < (keysZ (wp a (Q : Int) b t)).length; rw [keysZ_len, wp_keys_len]; exact hj) _)
  rw [wp_keys_len]
  refine ⟨fun i hi hw => ?_, fun x hx => ?_⟩
  · obtain ⟨j, h1, h2, h3⟩ := hw
    rw [cgo_find, if_pos ⟨j, h1, h2, h3⟩, mfind_wp]
    have := wp_keys a (Q : Int) b t _ (hmem j h1)
    rw [h2] at this
    rw [if_pos (by omega), show a + i - a = i by omega]
    rfl
  · rw [cgo_find, if_neg]
    rintro ⟨j, h1, h2, h3⟩
    have := wp_keys a (Q : Int) b t _ (hmem j h1)
    rw [h2] at this
    exact hx (x - a) (by omega) ⟨j, h1, by rw [h2]; omega, h3⟩ (by omega)
theorem cgo_nil (f : M) (picks : List Int) : cgo f [] (keysZ []) picks 0 = f := rfl
theorem wp_fl {S : Int} {a : Nat} {q : Int} {b : List Int} {t : Nat} (h : ((a + t : Nat) : Int) ≤ S) : Fl S (wp a q b t) t :=
  ⟨fun x hx => by have := wp_keys a q b t x hx; omega, by rw [wp_keys_len]; exact Nat.le_refl _⟩
/-- Behind a crash in a call the records are those ahead of it, or those behind it. -/
theorem crash_rest {S : Nat} (hS : S ≤ 16384) {f : M} {h e : Int} {q : Nat} (hq : q + 1 < 4611686018427387904) {m m' : MM} (hm : MW m) (hm' : MW m') (I : Inv S f h e q m) {p : Nat} {b : List Int} {h' e' : Int} (C : CallAt S h e m m' p b h' e') {t : Nat} (ht : t ≤ secs b.length) (picks : List Int) :
    ∃ mx, (mx = m ∨ mx = m') ∧ Rest S (cgo f (wp p ((q + 1 : Nat) : Int) b t) (keysZ (wp p ((q + 1 : Nat) : Int) b t)) picks (wp p ((q + 1 : Nat) : Int) b t).length) (q + 1) mx := by
  have o := crash_over (f := f) (a := p) (Q := q + 1) ht picks
  by_cases hW : ∃ i, i < secs b.length ∧ ¬ kept p ((q + 1 : Nat) : Int) b t picks i
  · exact ⟨m, .inl rfl, I.torn hS hq C o hW⟩
  · refine ⟨m', .inr rfl, (I.step hS hq hm hm' C ⟨fun i hi _ => o.on i hi ?_, fun x hx => o.off x (fun i hi _ => hx i hi trivial)⟩).rest⟩
    exact Classical.byContradiction fun hn => hW ⟨i, hi, hn⟩
end Go.Proofs.YthbbokndogjopaaGreatDoor.Pure

namespace Go.Proofs.YthbbokndogjopaaGreatDoor.Pure
open Go Go.Lib Go.Proofs.YthbbokndogjopaaGreatDoor.Cm
open Classical
set_option linter.unusedVariables false
set_option linter.unusedSimpArgs false
set_option maxRecDepth 100000
theorem compact_arm {n : Nat} (hn : 60000 < n) {S : Nat} (hS : S ≤ 16384) {c : Int} (hc : 0 ≤ c ∧ c < 100000000) {h e : Int} {q : Nat} (hq : q < 1000000) {m : MM} (hm : MW m) {f : M} {L : Nat} (hf : Fl S f L) (hL : L ≤ 450000) (I : Inv S f h e q m) {A : Nat} (hA : A < 1000) (hr : secs (by_ 0 (dump m)).length ≤ S / 2) :
    (∃ (h' e' c' : Int) (f' : M) (A' : Nat), jour_Store_Compact n (((), ()), (((), (), h, e, (q : Int), ()), ((S : Int), (), (), c, (A : Int), false, ()), m, f, [], ())) = some (.inr (((ErrV.nil, ()), (((), (), h', e', ((q + 1 : Nat) : Int), ()), ((S : Int), (), (), c', (A' : Int), false, ()), m, f', [], m, ())))) ∧ Inv S f' h' e' (q + 1) m ∧ Fl S f' (L + S) ∧ c ≤ c' ∧ c' ≤ c + S + 1) ∨
    (∃ (p t : Nat) (b : List Int) (h' e' c' : Int), CallAt S h e m m p b h' e' ∧ p + secs b.length ≤ S ∧ t ≤ secs b.length ∧ c ≤ c' ∧ c' ≤ c + S + 1 ∧ A = t + 1 ∧ jour_Store_Compact n (((), ()), (((), (), h, e, (q : Int), ()), ((S : Int), (), (), c, (A : Int), false, ()), m, f, [], ())) = some (.inl ((ErrV.sent 119, ()), (((), (), h, e, ((q + 1 : Nat) : Int), ()), ((S : Int), (), (), c', 0, true, ()), m, f, wp p ((q + 1 : Nat) : Int) b t, ())))) := by
  obtain ⟨n, rfl⟩ : ∃ k, n = k + 2 := ⟨n - 2, by omega⟩
  have hp : planA S h m = some (nextH h * (S / 2), by_ 0 (dump m), (nextH h : Int), ((nextH h * (S / 2) + secs (by_ 0 (dump m)).length : Nat) : Int)) := by
    unfold planA
    rw [if_pos hr]
  have hroom := (planA_room hp).1
  have hC : CallAt S h e m m _ _ _ _ := call_planA (e := e) hp
  simp only at hroom hC
  have hcl : maps_Clone_33 (n + 1) (((), ()), (m, ())) = some (((), ()), (m, m, ())) := rfl
  by_cases hF : Fine A (secs (by_ 0 (dump m)).length + 1)
  · refine .inl ?_
    have hW := write_at (n := n) (by omega) (S := (S : Int)) (by omega) (at_ := nextH h * (S / 2)) (by_ 0 (dump m)) (hC.size hm) (by omega) hc (q := (q : Int)) (by omega) h e m hf (by omega) (A := A) (by omega) hF
    have hall := all_via (n := n) (by omega) hS (c := c) (A := (A : Int)) (h := h) (e := e) (q := (q : Int)) (m := m) hm.mi (f := f) (p := []) (er := ErrV.nil) (fun _ => hW)
    rw [if_pos hr, if_pos (by rfl)] at hall
    have hs := I.step hS (by omega) hm hm hC (over_wr f (nextH h * (S / 2)) (q + 1) (by_ 0 (dump m)))
    have hfl := hf.wr (p := nextH h * (S / 2)) (q := ((q + 1 : Nat) : Int)) (b := by_ 0 (dump m)) (by omega)
    refine ⟨_, _, c + (secs (by_ 0 (dump m)).length : Int) + 1, _, A - (secs (by_ 0 (dump m)).length + 1), ?_, hs, ⟨hfl.k, by have := hfl.len; omega⟩, by omega, by omega⟩
    simp only [jour_Store_Compact, hcl]
    rw [hall]
    rfl
  · refine .inr ?_
    unfold Fine at hF
    obtain ⟨t, rfl⟩ : ∃ t, A = t + 1 := ⟨A - 1, by omega⟩
    have hW := write_fell (n := n) (by omega) (S := (S : Int)) (by omega) (at_ := nextH h * (S / 2)) (by_ 0 (dump m)) (hC.size hm) (by omega) hc (q := (q : Int)) (by omega) h e m f (t := t) (by omega)
    have hall := all_via (n := n) (by omega) hS (c := c) (A := ((t + 1 : Nat) : Int)) (h := h) (e := e) (q := (q : Int)) (m := m) hm.mi (f := f) (p := []) (er := ErrV.sent 119) (fun _ => hW)
    rw [if_pos hr, if_neg (by decide)] at hall
    refine ⟨_, t, _, _, _, c + (t : Int), hC, hroom, by omega, by omega, by omega, rfl, ?_⟩
    simp only [jour_Store_Compact, hcl]
    rw [hall]
    rfl
end Go.Proofs.YthbbokndogjopaaGreatDoor.Pure

namespace Go.Proofs.YthbbokndogjopaaGreatDoor.Pure
open Go Go.Lib Go.Proofs.YthbbokndogjopaaGreatDoor.Cm
open Classical
set_option linter.unusedVariables false
set_option linter.unusedSimpArgs false
set_option maxRecDepth 100000
abbrev DoT := Int × List ChT
/-- Things few, each small. -/
def okD (long : Nat) (x : DoT) : Prop := x.2.length ≤ 8 ∧ ∀ c ∈ x.2, c.2.1.size ≤ long
theorem light9 {n : Nat} (hn : 20 < n) (l : List DoT) (long : Nat) (i : Nat) (hi : i < l.length) (h8 : (l.getD i (Ty.dflt ty3)).2.length ≤ 8) :
    (law4_light_l9 n n ((l, (long : Int), (i : Int), 0, ()), ()) = some (.inl ((l, (long : Int), (i : Int), ()), ())) ∧ okD long (l.getD i (Ty.dflt ty3))) ∨ law4_light_l9 n n ((l, (long : Int), (i : Int), 0, ()), ()) = some (.inr (.inl ((false, ()), ()))) := by
  generalize hx : (l.getD i (Ty.dflt ty3) : DoT) = x at h8
  have hx' : rdT ty3 l (i : Int) = x := hx
  have a := for_inv (F := law4_light_l9 n) (len := x.2.length) (st := fun j => ((l, (long : Int), (i : Int), (j : Int), ()), ())) (fun j => ∀ c ∈ x.2.take j, c.2.1.size ≤ long)
    (fun r => (r = some (.inl ((l, (long : Int), (i : Int), ()), ())) ∧ okD long x) ∨ r = some (.inr (.inl ((false, ()), ())))) (by simp) (fun j k hj hI => by
      rw [law4_light_l9, if_pos (show 0 ≤ (i : Int) ∧ (i : Int) < (l.length : Int) from ⟨by omega, by omega⟩), hx', if_pos (decide_eq_true (show (j : Int) < (x.2.length : Int) by omega)), if_pos (show 0 ≤ (i : Int) ∧ (i : Int) < (l.length : Int) from ⟨by omega, by omega⟩), if_pos (show 0 ≤ (j : Int) ∧ (j : Int) < (x.2.length : Int) from ⟨by omega, by omega⟩)]
      simp only []
      generalize hc : rdT ty0 x.2 (j : Int) = cc
      have hc2 : x.2.getD j (Ty.dflt ty0) = cc := hc
      obtain ⟨c1, c2, c3⟩ := cc
      simp only []
      by_cases h1 : (c1.size : Int) > 60
      · rw [if_pos (decide_eq_true h1)]
        exact .inr (.inr rfl)
      · rw [if_neg (by simpa using h1), if_pos (show 0 ≤ (i : Int) ∧ (i : Int) < (l.length : Int) from ⟨by omega, by omega⟩), if_pos (show 0 ≤ (j : Int) ∧ (j : Int) < (x.2.length : Int) from ⟨by omega, by omega⟩)]
        by_cases h2 : (c2.size : Int) > (long : Int)
        · rw [if_pos (decide_eq_true h2)]
          exact .inr (.inr rfl)
        · rw [if_neg (by simpa using h2), w64_up j (by omega)]
          refine .inl ⟨fun c hc => ?_, rfl⟩
          rw [take_succ x.2 j hj (Ty.dflt ty0), List.mem_append] at hc
          rcases hc with hc | hc
          · exact hI c hc
          · rw [List.mem_singleton, hc2] at hc
            rw [hc]
            show c2.size ≤ long
            omega) (fun k hI => by
      rw [List.take_length] at hI
      refine .inl ⟨?_, h8, hI⟩
      rw [law4_light_l9, if_pos (show 0 ≤ (i : Int) ∧ (i : Int) < (l.length : Int) from ⟨by omega, by omega⟩), hx', if_neg (by simp)]) n (by omega)
  exact a
theorem light_at {n : Nat} (hn : 100 < n) (l : List DoT) (most long : Nat) (hm : most ≤ 50) :
    (law4_light n ((l, (most : Int), (long : Int), ()), ()) = some ((true, ()), ()) ∧ l.length ≤ most ∧ ∀ x ∈ l, okD long x) ∨ law4_light n ((l, (most : Int), (long : Int), ()), ()) = some ((false, ()), ()) := by
  obtain ⟨n, rfl⟩ : ∃ m, n = m + 1 := ⟨n - 1, by omega⟩
  simp only [law4_light]
  by_cases h0 : (l.length : Int) > (most : Int)
  · rw [if_pos (decide_eq_true h0)]
    exact .inr rfl
  · rw [if_neg (by simpa using h0)]
    have a := for_inv (F := law4_light_l4 n) (len := l.length) (st := fun j => ((l, (long : Int), (j : Int), ()), ())) (fun j => ∀ x ∈ l.take j, okD long x)
      (fun r => (r = some (.inl ((), ())) ∧ ∀ x ∈ l, okD long x) ∨ r = some (.inr (.inl ((false, ()), ())))) (by simp) (fun j k hj hI => by
        rw [law4_light_l4, if_pos (decide_eq_true (show (j : Int) < (l.length : Int) by omega)), if_pos (show 0 ≤ (j : Int) ∧ (j : Int) < (l.length : Int) from ⟨by omega, by omega⟩), rdT_nat]
        by_cases h8 : ((l.getD j (Ty.dflt ty3)).2.length : Int) > 8
        · rw [if_pos (decide_eq_true h8)]
          exact .inr (.inr rfl)
        · rw [if_neg (by simpa using h8)]
          rcases light9 (n := n) (by omega) l long j hj (by omega) with ⟨h9, hok⟩ | h9
          · rw [h9]
            simp only []
            rw [w64_up j (by omega)]
            refine .inl ⟨fun x hx => ?_, rfl⟩
            rw [take_succ l j hj (Ty.dflt ty3), List.mem_append] at hx
            rcases hx with hx | hx
            · exact hI x hx
            · rw [List.mem_singleton] at hx
              rw [hx]
              exact hok
          · rw [h9]
            exact .inr (.inr rfl)) (fun k hI => by
        rw [List.take_length] at hI
        refine .inl ⟨?_, hI⟩
        rw [law4_light_l4, if_neg (by simp)]) n (by omega)
    rcases a with ⟨a, ha⟩ | a
    · rw [show law4_light_l4 n n ((l, (long : Int), 0, ()), ()) = _ from a]
      exact .inl ⟨rfl, by omega, ha⟩
    · rw [show law4_light_l4 n n ((l, (long : Int), 0, ()), ()) = _ from a]
      exact .inr rfl
end Go.Proofs.YthbbokndogjopaaGreatDoor.Pure

namespace Go.Proofs.YthbbokndogjopaaGreatDoor.Pure
open Go Go.Lib Go.Proofs.YthbbokndogjopaaGreatDoor.Cm
open Classical
set_option linter.unusedVariables false
set_option linter.unusedSimpArgs false
set_option maxRecDepth 100000
theorem Number_at {n : Nat} (hn : 1 ≤ n) (x : Int) {m : Int} (hm : 0 < m) (hm2 : m < 1000000000) : world_Number n ((x, m, ()), ()) = some ((num x m, ()), ()) := by
  obtain ⟨n, rfl⟩ : ∃ m, n = m + 1 := ⟨n - 1, by omega⟩
  have := tmod_b x m hm
  simp only [world_Number]
  rw [if_neg (show ¬ (m = 0) by omega)]
  unfold num
  by_cases h : Int.tmod x m < 0
  · rw [if_pos (decide_eq_true h), if_pos h, w64_id (by omega) (by omega)]
  · rw [if_neg (by simpa using h), if_neg h]
theorem is_119 {n : Nat} (hn : 50 ≤ n) : pendulumsee_Is n ((ErrV.sent 119, 119, ()), ()) = some ((true, ()), ()) := by
  obtain ⟨n, rfl⟩ : ∃ m, n = m + 50 := ⟨n - 50, by omega⟩
  kernel_rfl
theorem Down_at {n : Nat} (hn : 1 ≤ n) (S c A : Int) (d : Bool) (f p : M) : disk_Disk_Down n (((), ()), ((S, (), (), c, A, d, ()), f, p, ())) = some ((d, ()), ((S, (), (), c, A, d, ()), f, p, ())) := by
  obtain ⟨n, rfl⟩ : ∃ m, n = m + 1 := ⟨n - 1, by omega⟩
  rfl
theorem Arm_at {n : Nat} (hn : 1 ≤ n) (S c A : Int) (d : Bool) (f p : M) {x : Int} (hx : 0 ≤ x) : disk_Disk_Arm n (((), x, ()), ((S, (), (), c, A, d, ()), f, p, ())) = some (((), ()), ((S, (), (), c, x, d, ()), f, p, ())) := by
  obtain ⟨n, rfl⟩ : ∃ m, n = m + 1 := ⟨n - 1, by omega⟩
  simp only [disk_Disk_Arm]
  rw [show mx x 0 = x by unfold mx; split <;> omega]
abbrev SS : Int := ((4096 : Nat) : Int)
/-- Between two things. -/
structure Ps (m : MM) (h e c : Int) (q : Nat) (f : M) (i : Nat) : Prop where
  inv : Inv 4096 f h e q m
  mw : MW m
  vl : VL 400 m
  fl : Fl 4096 f (i * 4096)
  c0 : 0 ≤ c
  c1 : c ≤ i * 4100
  q1 : q ≤ i
theorem small4 {m : MM} (hm : MW m) (h : VL 400 m) : secs (by_ 0 (dump m)).length ≤ 4096 / 2 := by
  have := dump_small hm h
  unfold secs
  omega
/-- The power went in a call. -/
structure Fell (m mn : MM) (h e : Int) (q : Nat) (c c' : Int) (f p : M) : Prop where
  mw : MW mn
  vl : VL 400 mn
  c0 : c ≤ c'
  c1 : c' ≤ c + 4097
  pl : ∃ L : Nat, L ≤ 4096 ∧ Fl 4096 p L
  ex : ∀ picks : List Int, ∃ mx, (mx = m ∨ mx = mn) ∧ Rest 4096 (cgo f p (keysZ p) picks p.length) (q + 1) mx
theorem fell_of {m mn : MM} (hm : MW m) (hmn : MW mn) (hv : VL 400 mn) {h e : Int} {q : Nat} (hq : q < 1000) {c c' : Int} (h0 : c ≤ c') (h1 : c' ≤ c + 4097) {f : M} (I : Inv 4096 f h e q m) {p t : Nat} {b : List Int} {h' e' : Int} (C : CallAt 4096 h e m mn p b h' e') (hr : p + secs b.length ≤ 4096) (ht : t ≤ secs b.length) : Fell m mn h e q c c' f (wp p ((q + 1 : Nat) : Int) b t) :=
  ⟨hmn, hv, h0, h1, ⟨t, by omega, wp_fl (by omega)⟩, fun picks => crash_rest (by omega) (by omega) hm hmn I C ht picks⟩
theorem commit_step {n : Nat} (hn : 60000 < n) {m : MM} {h e c : Int} {q : Nat} {f : M} {i A : Nat} (hi : i < 25) (hA : A < 1000) (P : Ps m h e c q f i) (l : List ChT) (hl : l.length ≤ 8) (hv : ∀ c ∈ l, c.2.1.size ≤ 400) :
    (∃ (m' : MM) (h' e' c' : Int) (q' A' : Nat) (f' : M) (er : ErrV) (code : Int), law4_after n ((recs m, l, ()), ()) = some ((((recs m', ()), (code, ()), ()), ()), ()) ∧ pendulumsee_Is n ((er, code, ()), ()) = some ((true, ()), ()) ∧ Ps m' h' e' c' q' f' (i + 1) ∧
      (jour_Store_Commit n (((), l, ()), (((), (), h, e, (q : Int), ()), (SS, (), (), c, (A : Int), false, ()), m, f, [], ())) = some (.inl ((er, ()), (((), (), h', e', (q' : Int), ()), (SS, (), (), c', (A' : Int), false, ()), m', f', [], ()))) ∨
       jour_Store_Commit n (((), l, ()), (((), (), h, e, (q : Int), ()), (SS, (), (), c, (A : Int), false, ()), m, f, [], ())) = some (.inr (((er, ()), (((), (), h', e', (q' : Int), ()), (SS, (), (), c', (A' : Int), false, ()), m, f', [], m', ())))))) ∨
    (∃ (mn : MM) (c' : Int) (p : M), law4_after n ((recs m, l, ()), ()) = some ((((recs mn, ()), (0, ()), ()), ()), ()) ∧ Fell m mn h e q c c' f p ∧
       jour_Store_Commit n (((), l, ()), (((), (), h, e, (q : Int), ()), (SS, (), (), c, (A : Int), false, ()), m, f, [], ())) = some (.inl ((ErrV.sent 119, ()), (((), (), h, e, ((q + 1 : Nat) : Int), ()), (SS, (), (), c', 0, true, ()), m, f, p, ())))) := by
  have hq := P.q1
  have hc1 := P.c1
  have stay : Ps m h e c q f (i + 1) := ⟨P.inv, P.mw, P.vl, ⟨P.fl.k, by have := P.fl.len; omega⟩, P.c0, by omega, by omega⟩
  have ha := after_at (n := n) P.mw (l := l) (by omega) (by omega)
  cases hb : bad m l with
  | some code =>
    rw [hb] at ha
    exact .inl ⟨m, h, e, c, q, A, f, _, _, ha, is_bad (by omega) hb, stay, .inl (commit_bad (S := 4096) (by omega) (by omega) hb)⟩
  | none =>
    rw [hb] at ha
    cases he : equalM (appl m l) m with
    | true =>
      have hs := equalM_sim (appl_nodup P.mw.2.2 l) P.mw.2.2 he
      rw [show recs (appl m l) = recs m from recs_sim (appl_nodup P.mw.2.2 l) P.mw.2.2 hs] at ha
      exact .inl ⟨m, h, e, c, q, A, f, _, _, ha, is_nil (by omega), stay, .inl (commit_same (S := 4096) (by omega) P.mw.mi (by omega) hb he)⟩
    | false =>
      have hvl := P.vl.appl hv
      rcases commit_arm (n := n) hn (S := 4096) (by omega) (c := c) ⟨P.c0, by omega⟩ (by omega) P.mw P.fl (by omega) P.inv (l := l) (by omega) hb he hA (small4 (P.mw.appl hb) hvl) with ⟨h', e', c', f', A', g1, g2, g3, g4, g5⟩ | ⟨p, t, b, h', e', c', g1, g2, g3, g4, g5, -, g7⟩
      · exact .inl ⟨appl m l, h', e', c', q + 1, A', f', _, _, ha, is_nil (by omega), ⟨g2, P.mw.appl hb, hvl, ⟨g3.k, by have := g3.len; omega⟩, by have := P.c0; omega, by omega, by omega⟩, .inr g1⟩
      · exact .inr ⟨appl m l, c', _, ha, fell_of P.mw (P.mw.appl hb) hvl (by omega) g4 (by omega) P.inv g1 g2 g3, g7⟩
theorem step26 {n : Nat} (hn : 80000 < n) (l : List DoT) (arms picks : List Int) {m : MM} {h e c : Int} {q : Nat} {f : M} {i A : Nat} (hA : A < 1000) (hi : i < l.length) (hl : l.length ≤ 25) (hok : ∀ x ∈ l, okD 400 x) (P : Ps m h e c q f i) :
    (∃ (m' : MM) (h' e' c' : Int) (q' A' : Nat) (f' : M) (er : ErrV), Ps m' h' e' c' q' f' (i + 1) ∧ law4_JourFalls_c26 n ((l, arms, picks, (), (), recs m, (i : Int), recs m, ErrV.nil, ()), (((), (), h, e, (q : Int), ()), (SS, (), (), c, (A : Int), false, ()), m, f, [], ())) = some (.inl ((l, arms, picks, (), (), recs m, (i : Int), recs m', er, ()), (((), (), h', e', (q' : Int), ()), (SS, (), (), c', (A' : Int), false, ()), m', f', [], ())))) ∨
    (∃ (mn : MM) (c' : Int) (p : M), Fell m mn h e q c c' f p ∧ law4_JourFalls_c26 n ((l, arms, picks, (), (), recs m, (i : Int), recs m, ErrV.nil, ()), (((), (), h, e, (q : Int), ()), (SS, (), (), c, (A : Int), false, ()), m, f, [], ())) = some (.inl ((l, arms, picks, (), (), recs m, (i : Int), recs mn, ErrV.sent 119, ()), (((), (), h, e, ((q + 1 : Nat) : Int), ()), (SS, (), (), c', 0, true, ()), m, f, p, ())))) := by
  have hx := hok _ (getD_mem l i hi (Ty.dflt ty3))
  have hr : rdT ty3 l (i : Int) = l.getD i (Ty.dflt ty3) := rfl
  generalize (l.getD i (Ty.dflt ty3) : DoT) = x at hx hr
  obtain ⟨kd, L⟩ := x
  have hb : 0 ≤ (i : Int) ∧ (i : Int) < (l.length : Int) := ⟨by omega, by omega⟩
  have hq := P.q1
  have hc1 := P.c1
  simp only [law4_JourFalls_c26]
  rw [if_pos hb, hr]
  by_cases k1 : kd = 1
  · rw [if_pos (by rw [k1]; rfl), if_pos hb]
    simp only []
    rcases commit_step (n := n) (by omega) (by omega) hA P L hx.1 hx.2 with ⟨m', h', e', c', q', A', f', er, code, g1, g2, g3, g4⟩ | ⟨mn, c', p, g1, g2, g3⟩
    · refine .inl ⟨m', h', e', c', q', A', f', er, g3, ?_⟩
      rw [g1]
      simp only []
      rw [if_pos hb]
      rcases g4 with g4 | g4
      · rw [g4]
        simp only []
        rw [Down_at (by omega)]
        simp only []
        rw [if_pos (by decide), g2]
        rfl
      · rw [g4]
        simp only []
        rw [Down_at (by omega)]
        simp only []
        rw [if_pos (by decide), g2]
        rfl
    · refine .inr ⟨mn, c', p, g2, ?_⟩
      rw [g1]
      simp only []
      rw [if_pos hb, g3]
      simp only []
      rw [Down_at (by omega)]
      simp only []
      rw [if_neg (by decide)]
  · rw [if_neg (by simpa using k1)]
    by_cases k2 : kd = 2
    · rw [if_pos (by rw [k2]; rfl)]
      rcases compact_arm (n := n) (by omega) (S := 4096) (by omega) (c := c) ⟨P.c0, by omega⟩ (by omega) P.mw P.fl (by omega) P.inv hA (small4 P.mw P.vl) with ⟨h', e', c', f', A', g1, g2, g3, g4, g5⟩ | ⟨p, t, b, h', e', c', g1, g2, g3, g4, g5, -, g7⟩
      · refine .inl ⟨m, h', e', c', q + 1, A', f', ErrV.nil, ⟨g2, P.mw, P.vl, ⟨g3.k, by have := g3.len; omega⟩, by have := P.c0; omega, by omega, by omega⟩, ?_⟩
        rw [g1]
      · refine .inr ⟨m, c', _, fell_of P.mw P.mw P.vl (by omega) g4 (by omega) P.inv g1 g2 g3, ?_⟩
        rw [g7]
    · rw [if_neg (by simpa using k2)]
      exact .inl ⟨m, h, e, c, q, A, f, ErrV.nil, ⟨P.inv, P.mw, P.vl, ⟨P.fl.k, by have := P.fl.len; omega⟩, P.c0, by omega, by omega⟩, rfl⟩
theorem step15 {n : Nat} (hn : 10 < n) (l : List DoT) (arms picks : List Int) (x : MM) (i : Nat) (ha : arms.length ≤ 25) (st : Unit × Unit × Int × Int × Int × Unit) (c : Int) (m : MM) (f : M) : ∃ A : Nat, A < 1000 ∧ law4_JourFalls_c15 n ((l, arms, picks, (), (), x, (i : Int), ()), (st, (SS, (), (), c, 0, false, ()), m, f, [], ())) = some (.inl ((l, arms, picks, (), (), x, (i : Int), ()), (st, (SS, (), (), c, (A : Int), false, ()), m, f, [], ()))) := by
  obtain ⟨s1, s2, s3, s4, s5, s6⟩ := st
  simp only [law4_JourFalls_c15]
  by_cases h : i < arms.length
  · obtain ⟨v, h1, h2⟩ := num_nat (rdT ((.int .i64) : Ty) arms (i : Int)) (m := 24) (by omega)
    refine ⟨v, by omega, ?_⟩
    rw [if_pos (decide_eq_true (show (i : Int) < (arms.length : Int) by omega)), if_pos (show 0 ≤ (i : Int) ∧ (i : Int) < (arms.length : Int) from ⟨by omega, by omega⟩), Number_at (by omega) _ (by omega) (by omega), h2]
    simp only []
    rw [Arm_at (by omega) _ _ _ _ _ _ (by omega)]
  · refine ⟨0, by omega, ?_⟩
    rw [if_neg (by simp; omega)]
    rfl
theorem run11 {n : Nat} (hn : 80000 < n) (l : List DoT) (arms picks : List Int) (ha : arms.length ≤ 25) (hl : l.length ≤ 25) (hok : ∀ x ∈ l, okD 400 x) : ∀ (d i k : Nat) {m : MM} {h e c : Int} {q : Nat} {f : M}, i + d = l.length → d < k → Ps m h e c q f i →
    ∃ (m' : MM) (h' e' c' : Int) (q' : Nat) (f' : M), Ps m' h' e' c' q' f' l.length ∧ law4_JourFalls_l11 n k ((l, arms, picks, (), (), recs m, (i : Int), ()), (((), (), h, e, (q : Int), ()), (SS, (), (), c, 0, false, ()), m, f, [], ())) = some (.inl (((), recs m', ()), (((), (), h', e', (q' : Int), ()), (SS, (), (), c', 0, false, ()), m', f', [], ()))) := by
  intro d
  induction d with
  | zero =>
    intro i k m h e c q f hi hk P
    obtain ⟨k, rfl⟩ : ∃ m, k = m + 1 := ⟨k - 1, by omega⟩
    obtain rfl : i = l.length := by omega
    refine ⟨m, h, e, c, q, f, P, ?_⟩
    rw [law4_JourFalls_l11, if_neg (by simp)]
  | succ d ih =>
    intro i k m h e c q f hi hk P
    obtain ⟨k, rfl⟩ : ∃ m, k = m + 1 := ⟨k - 1, by omega⟩
    obtain ⟨A, hA, h15⟩ := step15 (n := n) (by omega) l arms picks (recs m) i ha ((), (), h, e, (q : Int), ()) c m f
    rw [law4_JourFalls_l11, if_pos (decide_eq_true (show (i : Int) < (l.length : Int) by omega)), h15]
    simp only []
    rcases step26 hn l arms picks hA (by omega) hl hok P with ⟨m', h', e', c', q', A', f', er, P', g⟩ | ⟨mn, c', p, F, g⟩
    · obtain ⟨m2, h2, e2, c2, q2, f2, P2, hrun⟩ := ih (i + 1) k (by omega) (by omega) P'
      refine ⟨m2, h2, e2, c2, q2, f2, P2, ?_⟩
      have hsame := same_at (n := n) (by omega) h' e' (q' : Int) (SS, (), (), c', 0, false, ()) P'.mw f' [] (recs m') (by rw [recs_len]; have := P'.mw.1; omega)
      rw [decide_eq_true rfl] at hsame
      rw [g]
      simp only []
      rw [Down_at (by omega)]
      simp only []
      rw [if_pos (by decide), Arm_at (by omega) _ _ _ _ _ _ (by omega)]
      simp only []
      rw [hsame]
      simp only []
      rw [if_neg (by decide), w64_up i (by omega)]
      exact hrun
    · obtain ⟨L, hL, hpl⟩ := F.pl
      obtain ⟨mx, hmx, hR⟩ := F.ex picks
      have hq1 := P.q1
      have hc1 := P.c1
      have hc0 := P.c0
      have hF0 := F.c0
      have hF1 := F.c1
      have hfl := cgo_fl (p := p) (picks := picks) (ks := keysZ p) (L := i * 4096) P.fl (fun x hx => hpl.k x ((sortZ_perm _).mem_iff.1 hx)) p.length (by rw [keysZ_len]; exact Nat.le_refl _)
      have hpn := hpl.len
      generalize hf2 : cgo f p (keysZ p) picks p.length = f2 at hR hfl
      have hmwx : MW mx ∧ VL 400 mx := by
        rcases hmx with rfl | rfl
        · exact ⟨P.mw, P.vl⟩
        · exact ⟨F.mw, F.vl⟩
      obtain ⟨h1, e1, q1, m1, o1, -⟩ := open_at (n := n) (by omega) (S := 4096) (by omega) (c := c') (A := IntKind.i64.wrap (1 + Int.tmod (i : Int) 4)) (by omega) hR
      obtain ⟨h2, e2, q2, m2, o2, o3, o4, o5, o6⟩ := open_at (n := n) (by omega) (S := 4096) (by omega) (c := c') (A := 0) (by omega) hR
      have hmw2 := hmwx.1.sim o6 o5
      have hvl2 := hmwx.2.sim o6 o5
      have hrec2 : recs m2 = recs mx := (recs_sim hmwx.1.2.2 o6 o5).symm
      have P2 : Ps m2 h2 e2 c' q2 f2 (i + 1) := ⟨o3, hmw2, hvl2, ⟨hfl.k, by have := hfl.len; omega⟩, by omega, by omega, by omega⟩
      obtain ⟨m3, h3, e3, c3, q3, f3, P3, hrun⟩ := ih (i + 1) k (by omega) (by omega) P2
      refine ⟨m3, h3, e3, c3, q3, f3, P3, ?_⟩
      have hsn := same_at (n := n) (by omega) h2 e2 (q2 : Int) (SS, (), (), c', 0, false, ()) hmw2 f2 [] (recs mn) (by rw [recs_len]; have := F.mw.1; omega)
      have hsh := same_at (n := n) (by omega) h2 e2 (q2 : Int) (SS, (), (), c', 0, false, ()) hmw2 f2 [] (recs m) (by rw [recs_len]; have := P.mw.1; omega)
      have hcr := crash_at (n := n) (by omega) (S := 4096) (c := c') (A := 0) (d := true) (f := f) (picks := picks) hpl (by omega) (by omega)
      have hcr2 := fun A2 => crash_at (n := n) (by omega) (S := 4096) (c := c') (A := A2) (d := false) (f := f2) (p := []) (L := 0) (picks := picks) ⟨(fun x hx => by cases hx), Nat.le_refl _⟩ (by omega) (by omega)
      rw [hf2] at hcr
      rw [g]
      simp only []
      rw [Down_at (by omega)]
      simp only []
      rw [if_neg (by decide), is_119 (by omega)]
      simp only []
      rw [if_neg (by decide), show disk_Disk_Crash n (((), picks, ()), ((SS, (), (), c', 0, true, ()), f, p, ())) = _ from hcr]
      simp only []
      have hwrap : IntKind.i64.wrap (1 + Int.tmod (i : Int) 4) = 1 + ((i % 4 : Nat) : Int) := by
        rw [Int.tmod_eq_emod_of_nonneg (by omega), w64_id (by omega) (by omega)]
        omega
      rw [Arm_at (by omega) _ _ _ _ _ _ (by rw [hwrap]; omega)]
      simp only []
      rw [show jour_Open n (((), ()), ((4096, (), (), c', IntKind.i64.wrap (1 + Int.tmod (i : Int) 4), false, ()), f2, [], ())) = _ from o1]
      simp only []
      rw [show disk_Disk_Crash n (((), picks, ()), ((SS, (), (), c', IntKind.i64.wrap (1 + Int.tmod (i : Int) 4), false, ()), f2, [], ())) = _ from hcr2 _]
      simp only []
      rw [show jour_Open n (((), ()), ((4096, (), (), c', 0, false, ()), cgo f2 [] (keysZ []) picks (([] : M).length), [], ())) = _ from o2]
      simp only []
      rw [if_neg (by decide), hsn]
      simp only []
      by_cases hd : recs m2 = recs mn
      · rw [if_pos (decide_eq_true hd), w64_up i (by omega), ← hd]
        exact hrun
      · have hm : recs m2 = recs m := by
          rcases hmx with rfl | rfl
          · exact hrec2
          · exact absurd hrec2 hd
        rw [if_neg (by simpa using hd), hsh, decide_eq_true hm]
        simp only []
        rw [if_neg (by decide), w64_up i (by omega), ← hm]
        exact hrun
theorem falls {n : Nat} (hn : 90000 < n) (l : List DoT) (arms picks : List Int) : law4_JourFalls (n + 1) ⟨⟨l, arms, picks, ⟨⟩⟩, ⟨⟩⟩ = some ((true, ()), ()) := by
  rw [law4_JourFalls, first_at (by omega)]
  simp only []
  rw [if_neg (by decide)]
  rcases light_at (n := n) (by omega) l 25 400 (by omega) with ⟨h1, h2, h3⟩ | h1
  · rw [show law4_light n ((l, 25, 400, ()), ()) = _ from h1]
    simp only []
    rw [if_neg (by decide)]
    by_cases ha : (arms.length : Int) > 25
    · rw [if_pos (decide_eq_true ha)]
    · rw [if_neg (by simpa using ha)]
      by_cases hp : (picks.length : Int) > 12
      · rw [if_pos (decide_eq_true hp)]
      · rw [if_neg (by simpa using hp), if_neg (by decide)]
        obtain ⟨h, e, q, m, g1, g2, g3, g4, g5⟩ := opened_at (n := n) (S := 4096) ⟨by omega, by omega⟩ (by omega)
        have hmw : MW m := MW.nil.sim g5 g4
        have hrm : recs m = [] := by rw [← recs_sim (a := []) .nil g5 g4]; rfl
        rw [show law4_opened n ((4096, ()), ()) = _ from g1]
        simp only []
        obtain ⟨m', h', e', c', q', f', P', hrun⟩ := run11 (n := n) (by omega) l arms picks (by omega) h2 h3 l.length 0 n (m := m) (h := h) (e := e) (c := 0) (q := q) (f := []) (by omega) (by omega) ⟨g2, hmw, VL.sim (a := []) (fun p hp => by cases hp) g5 g4, ⟨(fun x hx => by cases hx), Nat.zero_le _⟩, by omega, by omega, by omega⟩
        rw [hrm] at hrun
        rw [show law4_JourFalls_l11 n n ((l, arms, picks, (), (), [], 0, ()), (((), (), h, e, (q : Int), ()), (((4096 : Nat) : Int), (), (), 0, 0, false, ()), m, [], [], ())) = _ from hrun]
        simp only []
        have hsame := same_at (n := n) (by omega) h' e' (q' : Int) (SS, (), (), c', 0, false, ()) P'.mw f' [] (recs m') (by rw [recs_len]; have := P'.mw.1; omega)
        rw [decide_eq_true rfl] at hsame
        rw [hsame]
  · rw [show law4_light n ((l, 25, 400, ()), ()) = _ from h1]
    rfl
theorem JourFalls : law4_JourFalls.Pure := by
  intro l arms picks _ _ _
  exact ⟨99999 + 1, falls (by omega) l arms picks⟩
end Go.Proofs.YthbbokndogjopaaGreatDoor.Pure
