/- Blocks that rise, beside a map. By this session. -/
import Derived.Test.YtgpoomkbkckbaaaDoorDiskPlaysC
namespace Go.Proofs.YtgpoomkbkckbaaaDoor.Pure
open Go Go.Proofs.YtgpoomkbkckbaaaDoor.Cm
set_option linter.unusedVariables false
set_option linter.unusedSimpArgs false
/-- The same, rising. -/
def Up (l : M) : Prop := l.Pairwise fun a b => a.1 < b.1
def Sim (m l : M) : Prop := m.Perm l ∧ Up l
theorem ki_refl (a : Int) : ki a a = true := by simp [ki, keyEq]
theorem ki_eq (a b : Int) (h : ki a b = true) : a = b := by simpa [ki, keyEq] using h
theorem ki_bne (a b : Int) : (!ki a b) = (b != a) := by
  show (!(a == b)) = !(b == a)
  rw [BEq.comm]
theorem Up.nodup {l : M} (h : Up l) : (l.map Prod.fst).Nodup := List.Pairwise.map _ (fun a b h => by omega) h
theorem Sim.nodup {m l : M} (h : Sim m l) : (m.map Prod.fst).Nodup := ((h.1.map Prod.fst).nodup_iff).2 h.2.nodup
theorem Sim.find {m l : M} (h : Sim m l) (k : Int) : mfind ki k m = mfind ki k l := mfind_perm ki_refl ki_eq h.1 h.2.nodup
theorem Sim.keys {m l : M} (h : Sim m l) : keys m = l.map Prod.fst := by
  unfold Pure.keys
  refine List.Perm.eq_of_pairwise (le := fun a b : Int => a ≤ b) (fun a b _ _ h1 h2 => Int.le_antisymm h1 h2) (sortZ_sorted _) (List.Pairwise.map _ (fun a b h => by omega) h.2) ((sortZ_perm _).trans (h.1.map _))
theorem Sim.nil : Sim [] [] := ⟨.nil, .nil⟩
/-- With a block. -/
def insB (x : Int × List Int) : M → M
  | [] => [x]
  | y :: r => if y.1 < x.1 then y :: insB x r else if y.1 = x.1 then x :: r else x :: y :: r
theorem insB_perm (x : Int × List Int) : ∀ {l : M}, Up l → (insB x l).Perm (x :: l.filter fun p => !ki x.1 p.1)
  | [], _ => .refl _
  | y :: r, h => by
    obtain ⟨h1, h2⟩ := List.pairwise_cons.1 h
    unfold insB
    by_cases hlt : y.1 < x.1
    · rw [if_pos hlt, List.filter_cons, if_pos (by rw [ki_bne]; simp; omega)]
      exact ((insB_perm x h2).cons y).trans (.swap _ _ _)
    · rw [if_neg hlt]
      have hr : ∀ z ∈ r, x.1 < z.1 := fun z hz => by have := h1 z hz; omega
      have hf : r.filter (fun p => !ki x.1 p.1) = r := List.filter_eq_self.2 fun z hz => by rw [ki_bne]; have := hr z hz; simp; omega
      by_cases he : y.1 = x.1
      · rw [if_pos he, List.filter_cons, if_neg (by rw [ki_bne]; simp [he]), hf]
      · rw [if_neg he, List.filter_cons, if_pos (by rw [ki_bne]; simp; omega), hf]
theorem insB_up (x : Int × List Int) : ∀ {l : M}, Up l → Up (insB x l)
  | [], _ => List.pairwise_singleton _ _
  | y :: r, h => by
    obtain ⟨h1, h2⟩ := List.pairwise_cons.1 h
    unfold insB
    by_cases hlt : y.1 < x.1
    · rw [if_pos hlt]
      refine List.pairwise_cons.2 ⟨fun z hz => ?_, insB_up x h2⟩
      rcases List.mem_cons.1 ((insB_perm x h2).mem_iff.1 hz) with rfl | hz
      · exact hlt
      · exact h1 z (List.mem_filter.1 hz).1
    · rw [if_neg hlt]
      have hr : ∀ z ∈ r, x.1 < z.1 := fun z hz => by have := h1 z hz; omega
      by_cases he : y.1 = x.1
      · rw [if_pos he]; exact List.pairwise_cons.2 ⟨hr, h2⟩
      · rw [if_neg he]
        refine List.pairwise_cons.2 ⟨fun z hz => ?_, h⟩
        rcases List.mem_cons.1 hz with rfl | hz
        · omega
        · exact hr z hz
theorem insB_len (x : Int × List Int) : ∀ l : M, (insB x l).length ≤ l.length + 1
  | [] => Nat.le_refl _
  | y :: r => by
    unfold insB
    split
    · have := insB_len x r
      simp; omega
    · split <;> simp
theorem Sim.ins {m l : M} (h : Sim m l) (i : Int) (b : List Int) : Sim (mset ki i b m) (insB (i, b) l) :=
  ⟨(mset_perm ki_refl ki_eq h.nodup).trans (((h.1.filter _).cons _).trans (insB_perm (i, b) h.2).symm), insB_up _ h.2⟩
/-- One laid into another, one by one. -/
theorem Sim.fold : ∀ (q : M) {m l : M}, Sim m l → Sim (q.foldl (fun m x => mset ki x.1 x.2 m) m) (q.foldl (fun l x => insB x l) l)
  | [], m, l, h => h
  | x :: q, m, l, h => Sim.fold q (h.ins x.1 x.2)
theorem fold_merge : ∀ (q : M) {m : M}, (m.map Prod.fst).Nodup → (q.map Prod.fst).Nodup → (q.foldl (fun m x => mset ki x.1 x.2 m) m).Perm (mergeM m q)
  | [], m, _, _ => by
    show m.Perm (mergeM m [])
    unfold mergeM
    rw [List.filter_eq_self.2 (by simp), List.append_nil]
  | x :: q, m, hm, hq => by
    rw [List.map_cons, List.nodup_cons] at hq
    refine (fold_merge q (mset_nodup ki_refl ki_eq hm) hq.2).trans ?_
    have hp : (mset ki x.1 x.2 m).Perm (x :: m.filter fun p => !ki x.1 p.1) := mset_perm ki_refl ki_eq hm
    refine (mergeM_perm hp (.refl q)).trans ?_
    unfold mergeM
    have hx : (q.any fun z => z.1 == x.1) = false := by
      rw [List.any_eq_false]
      intro z hz e
      exact hq.1 (List.mem_map.2 ⟨z, hz, by simpa using e⟩)
    have e2 : ((x :: m.filter fun p => !ki x.1 p.1).filter fun p => !q.any fun z => z.1 == p.1) = x :: (m.filter fun p => !(x :: q).any fun z => z.1 == p.1) := by
      rw [List.filter_cons, if_pos (by rw [hx]; rfl), List.filter_filter]
      congr 1
      refine List.filter_congr fun z _ => ?_
      rw [List.any_cons, Bool.not_or, Bool.and_comm]
      congr 1
    rw [e2, List.cons_append]
    exact (List.perm_middle).symm
theorem Sim.merge {f p kept pend : M} (hf : Sim f kept) (hp : Sim p pend) : Sim (mergeM f p) (pend.foldl (fun l x => insB x l) kept) := by
  have h := Sim.fold pend hf
  refine ⟨?_, h.2⟩
  exact ((mergeM_perm (.refl f) hp.1).trans (fold_merge pend hf.nodup hp.2.nodup).symm).trans h.1
/-- Some of them. -/
def xstep (pend : M) (picks : List Int) (l : M) (k : Nat) : M := if pick picks k = true then insB (pend.getD k (0, [])) l else l
def xgo (kept pend : M) (picks : List Int) (k : Nat) : M := (List.range k).foldl (xstep pend picks) kept
theorem xgo_succ (kept pend : M) (picks : List Int) (k : Nat) : xgo kept pend picks (k + 1) = xstep pend picks (xgo kept pend picks k) k := by
  unfold xgo
  rw [List.range_succ, List.foldl_append]
  rfl
theorem mfind_at {l : M} (h : Up l) {k : Nat} (hk : k < l.length) : mfind ki (l.getD k (0, [])).1 l = some (l.getD k (0, [])).2 := by
  have hm : l.getD k (0, []) ∈ l := getD_mem _ _ hk _
  cases hq : mfind ki (l.getD k (0, [])).1 l with
  | none => exact absurd rfl (mfind_none ki_refl hq _ hm)
  | some v => exact congrArg some (nodup_val h.nodup (mfind_mem ki_eq hq) hm)
theorem Sim.crash {f p kept pend : M} (hf : Sim f kept) (hp : Sim p pend) (picks : List Int) : ∀ k, k ≤ pend.length → Sim (cgo f p (Pure.keys p) picks k) (xgo kept pend picks k)
  | 0, _ => hf
  | k + 1, hk => by
    rw [cgo_succ, xgo_succ]
    have ih := Sim.crash hf hp picks k (by omega)
    unfold cstep xstep
    by_cases h : pick picks k = true
    · rw [if_pos h, if_pos h]
      have e1 : (Pure.keys p).getD k 0 = (pend.getD k (0, [])).1 := by
        rw [hp.keys, List.getD_eq_getElem?_getD, List.getElem?_map, List.getD_eq_getElem?_getD, List.getElem?_eq_getElem (by omega)]; rfl
      rw [e1, hp.find, mfind_at hp.2 (by omega)]
      exact ih.ins _ _
    · rw [if_neg h, if_neg h]
      exact ih
/-- The bytes of a sector are not too many. -/
def VB (m : M) : Prop := ∀ q ∈ m, q.2.length ≤ 128
theorem VB.find {m : M} (h : VB m) {k : Int} {v : List Int} (hv : mfind ki k m = some v) : v.length ≤ 128 := h _ (mfind_mem ki_eq hv)
theorem VB.set {i : Int} {v : List Int} (hv : v.length ≤ 128) : ∀ {m : M}, VB m → VB (mset ki i v m)
  | [], _ => by
    intro p hp
    simp only [mset, List.mem_singleton] at hp
    subst hp
    exact hv
  | q :: m, h => by
    intro p hp
    simp only [mset] at hp
    split at hp
    · rcases List.mem_cons.1 hp with rfl | hp
      · exact hv
      · exact h p (.tail _ hp)
    · rcases List.mem_cons.1 hp with rfl | hp
      · exact h p (.head _)
      · exact VB.set hv (fun x hx => h x (.tail _ hx)) p hp
theorem VB.merge {a b : M} (ha : VB a) (hb : VB b) : VB (mergeM a b) := by
  intro p hp
  unfold mergeM at hp
  rcases List.mem_append.1 hp with h | h
  · exact ha p (List.mem_filter.1 h).1
  · exact hb p h
theorem VB.nil : VB [] := fun p hp => by cases hp
theorem VB.cgo {f p : M} {ks picks : List Int} (hf : VB f) (hp : VB p) : ∀ k, VB (cgo f p ks picks k)
  | 0 => hf
  | k + 1 => by
    rw [cgo_succ]
    unfold cstep
    split
    · refine VB.set ?_ (VB.cgo hf hp k)
      cases h : mfind ki (ks.getD k 0) p with
      | none => simp
      | some v => simpa using hp.find h
    · exact VB.cgo hf hp k
end Go.Proofs.YtgpoomkbkckbaaaDoor.Pure
