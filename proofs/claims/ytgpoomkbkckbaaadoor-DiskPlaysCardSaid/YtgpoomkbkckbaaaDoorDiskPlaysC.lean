/- Flush and Crash, in plain words. By this session. -/
import Derived.Test.YtgpoomkbkckbaaaDoorDiskPlaysA
namespace Go.Proofs.YtgpoomkbkckbaaaDoor.Pure
open Go Go.Proofs.YtgpoomkbkckbaaaDoor.Cm
set_option linter.unusedVariables false
set_option linter.unusedSimpArgs false
set_option maxRecDepth 100000
theorem mfind_append (k : Int) : ∀ a b : M, mfind ki k (a ++ b) = (mfind ki k a).or (mfind ki k b)
  | [], b => rfl
  | p :: a, b => by
    simp only [List.cons_append, mfind]
    split
    · rfl
    · exact mfind_append k a b
theorem mfind_any (k : Int) : ∀ m : M, (m.any fun q => q.1 == k) = (mfind ki k m).isSome
  | [] => rfl
  | p :: m => by
    simp only [List.any_cons, mfind]
    by_cases h : k = p.1
    · rw [if_pos (by simp [ki, keyEq, h]), h]; simp
    · rw [if_neg (by simpa [ki, keyEq] using h), mfind_any k m]
      have : (p.1 == k) = false := by simpa using fun e => h e.symm
      simp [this]
theorem mfind_filter (g : Int → Bool) (k : Int) : ∀ m : M, mfind ki k (m.filter fun p => g p.1) = if g k = true then mfind ki k m else none
  | [] => by simp [mfind]
  | p :: m => by
    rw [List.filter_cons]
    by_cases h : k = p.1
    · subst h
      by_cases hg : g p.1 = true
      · simp only [hg, if_true, mfind]
        rw [if_pos (by simp [ki, keyEq]), if_pos (by simp [ki, keyEq])]
      · rw [if_neg hg, mfind_filter g p.1 m, if_neg hg, if_neg hg]
    · have hk : ¬ ki k p.1 = true := by simpa [ki, keyEq] using h
      split
      · simp only [mfind]
        rw [if_neg hk, if_neg hk, mfind_filter g k m]
      · simp only [mfind]
        rw [if_neg hk, mfind_filter g k m]
/-- What is laid over stands. -/
theorem mfind_merge (k : Int) (a b : M) : mfind ki k (mergeM a b) = (mfind ki k b).or (mfind ki k a) := by
  unfold mergeM
  rw [mfind_append, mfind_filter (fun x => !b.any fun q => q.1 == x) k a, mfind_any]
  cases mfind ki k b with
  | none => simp
  | some v => simp
theorem merge_len (a b : M) : (mergeM a b).length ≤ a.length + b.length := by
  unfold mergeM
  rw [List.length_append]
  have := List.length_filter_le (fun p : Int × List Int => !b.any fun q => q.1 == p.1) a
  omega
/-- Keys within bounds. -/
def KB (s : Int) (m : M) : Prop := ∀ p ∈ m, 0 ≤ p.1 ∧ p.1 < s
theorem KB.wf {s : Int} {m : M} (h : KB s m) (hs : s ≤ 1000000) : wfKeys m = true := by
  unfold wfKeys
  rw [List.all_eq_true]
  intro p hp
  have := h p hp
  simp [Lit.wf, IntKind.min, IntKind.max, IntKind.bits, IntKind.signed]
  omega
theorem KB.merge {s : Int} {a b : M} (ha : KB s a) (hb : KB s b) : KB s (mergeM a b) := by
  intro p hp
  unfold mergeM at hp
  rcases List.mem_append.1 hp with h | h
  · exact ha p (List.mem_filter.1 h).1
  · exact hb p h
theorem KB.set {s i : Int} {v : List Int} (h0 : 0 ≤ i) (h1 : i < s) : ∀ {m : M}, KB s m → KB s (mset ki i v m)
  | [], _ => by
    intro p hp
    simp only [mset, List.mem_singleton] at hp
    subst hp
    exact ⟨h0, h1⟩
  | q :: m, h => by
    intro p hp
    simp only [mset] at hp
    split at hp
    · rcases List.mem_cons.1 hp with rfl | hp
      · exact ⟨h0, h1⟩
      · exact h p (.tail _ hp)
    · rcases List.mem_cons.1 hp with rfl | hp
      · exact h p (.head _)
      · exact KB.set h0 h1 (fun x hx => h x (.tail _ hx)) p hp
theorem KB.nil {s : Int} : KB s [] := fun p hp => by cases hp
theorem mset_len (i : Int) (v : List Int) : ∀ m : M, (mset ki i v m).length ≤ m.length + 1
  | [] => Nat.le_refl _
  | p :: m => by
    simp only [mset]
    split
    · simp
    · have := mset_len i v m
      simp; omega
section
variable {n : Nat} {s c a : Int} (ha : 0 ≤ a ∧ a ≤ 9223372036854775807) {d : Bool} {f p : M}
include ha
theorem flush_down (hn : 2 ≤ n) (hd : dn d a = true) : disk_Disk_Flush n (((), ()), ((s, (), (), c, a, d, ()), f, p, ())) = some ((ErrV.sent 119, ()), ((s, (), (), c, ar d a, true, ()), f, p, ())) := by
  obtain ⟨n, rfl⟩ : ∃ k, n = k + 1 := ⟨n - 1, by omega⟩
  simp only [disk_Disk_Flush, up_at (show 1 ≤ n by omega) s c ha d f p, hd]
  rfl
theorem flush_ok (hn : 2 ≤ n) (hd : dn d a = false) (hc : 0 ≤ c ∧ c ≤ 1000000) (hs : s ≤ 1000000) (hf : KB s f) (hp : KB s p) (hl : f.length + p.length ≤ 1000000) :
    disk_Disk_Flush n (((), ()), ((s, (), (), c, a, d, ()), f, p, ())) = some ((ErrV.nil, ()), ((s, (), (), c + 1, ar d a, false, ()), mergeM f p, [], ())) := by
  obtain ⟨n, rfl⟩ : ∃ k, n = k + 1 := ⟨n - 1, by omega⟩
  simp only [disk_Disk_Flush, up_at (show 1 ≤ n by omega) s c ha d f p, hd, Bool.not_false, Bool.not_true, Bool.false_eq_true, if_false]
  have e : maps_Copy n (((), (), ()), (f, p, ())) = some (((), ()), (mergeM f p, p, ())) := by
    show copySem _ _ _ = _
    unfold copySem
    rw [if_pos (hf.wf hs), if_pos (hp.wf hs), if_pos (show List.length (α := Int × List Int) f + List.length (α := Int × List Int) p ≤ 1099511627776 by omega)]
  rw [e]
  simp only [w64_id (show -9223372036854775808 ≤ c + 1 by omega) (by omega)]
end
/-! Crash -/
/-- Picked: the k-th of them. -/
def pick (picks : List Int) (k : Nat) : Bool := decide (k < picks.length) && (bitsOp .and .i64 (picks.getD k 0) 1 == 1)
def cstep (p : M) (ks picks : List Int) (f : M) (k : Nat) : M := if pick picks k = true then mset ki (ks.getD k 0) ((mfind ki (ks.getD k 0) p).getD []) f else f
def cgo (f p : M) (ks picks : List Int) (k : Nat) : M := (List.range k).foldl (cstep p ks picks) f
theorem cgo_succ (f p : M) (ks picks : List Int) (k : Nat) : cgo f p ks picks (k + 1) = cstep p ks picks (cgo f p ks picks k) k := by
  unfold cgo
  rw [List.range_succ, List.foldl_append]
  rfl
def keys (p : M) : List Int := sortZ (p.map Prod.fst)
theorem keys_len (p : M) : (keys p).length = p.length := by unfold keys; rw [(sortZ_perm _).length_eq, List.length_map]
theorem cgo_KB {s : Int} {f p : M} {picks : List Int} (hf : KB s f) (hp : KB s p) : ∀ k, k ≤ p.length → KB s (cgo f p (keys p) picks k)
  | 0, _ => hf
  | k + 1, hk => by
    rw [cgo_succ]
    unfold cstep
    split
    · have hm : (keys p).getD k 0 ∈ p.map Prod.fst := (sortZ_perm _).mem_iff.1 (getD_mem _ _ (by show k < (keys p).length; rw [keys_len]; omega) _)
      obtain ⟨q, hq, e⟩ := List.mem_map.1 hm
      rw [← e]
      exact (cgo_KB hf hp k (by omega)).set (hp q hq).1 (hp q hq).2
    · exact cgo_KB hf hp k (by omega)
theorem cgo_len (f p : M) (ks picks : List Int) : ∀ k, (cgo f p ks picks k).length ≤ f.length + k
  | 0 => Nat.le_refl _
  | k + 1 => by
    rw [cgo_succ]
    have := cgo_len f p ks picks k
    unfold cstep
    split
    · have := mset_len (ks.getD k 0) ((mfind ki (ks.getD k 0) p).getD []) (cgo f p ks picks k)
      omega
    · omega
theorem sorted_at {n : Nat} {s : Int} {p : M} (hp : KB s p) (hs : s ≤ 1000000) (hl : p.length ≤ 1000000) : slices_Sorted_int n (((), ()), (((), ()), p, ())) = some (((), ()), (((), ()), p, keys p, ())) := by
  show sortedSem _ _ _ _ _ _ = _
  unfold sortedSem
  rw [if_pos (hp.wf hs), if_pos (show List.length (α := Int × List Int) p ≤ 1099511627776 by omega)]
  rfl
theorem crash_loop {n : Nat} {s c a : Int} {d : Bool} {f p : M} {picks : List Int} {ks : List Int} {k : Nat} (hk : ks.length < k) (hl : ks.length ≤ 1000000) :
    disk_Disk_Crash_2_l1 n k (((), picks, (), (ks.length : Int), 0, ()), ((s, (), (), c, a, d, ()), f, p, ks, ())) = some (.inl (((), ()), ((s, (), (), c, a, d, ()), cgo f p ks picks ks.length, p, ()))) := by
  have h := for_all (F := disk_Disk_Crash_2_l1 n) (len := ks.length) (fun i => (((), picks, (), (ks.length : Int), (i : Int), ()), ((s, (), (), c, a, d, ()), cgo f p ks picks i, p, ks, ()))) (r := some (.inl (((), ()), ((s, (), (), c, a, d, ()), cgo f p ks picks ks.length, p, ())))) (fun i k hi => by
    simp only [disk_Disk_Crash_2_l1]
    rw [if_pos (decide_eq_true (show (i : Int) < (ks.length : Int) by omega)), if_pos (show (0 : Int) ≤ (i : Int) ∧ (i : Int) < (ks.length : Int) by omega), cgo_succ]
    simp only [rdT_nat, w64_up i (by omega)]
    unfold cstep pick
    by_cases h1 : i < picks.length
    · rw [if_pos (decide_eq_true (show (i : Int) < (picks.length : Int) by omega)), if_pos (show (0 : Int) ≤ (i : Int) ∧ (i : Int) < (picks.length : Int) by omega), decide_eq_true h1, Bool.true_and]
      by_cases h2 : (bitsOp .and .i64 (picks.getD i 0) 1 == 1) = true
      · rw [if_pos h2]
        exact (if_pos h2).trans rfl
      · rw [if_neg h2]
        exact (if_neg h2).trans rfl
    · rw [if_neg (by simpa using h1), decide_eq_false h1, Bool.false_and, if_neg (by decide)]) (fun k => by
    simp only [disk_Disk_Crash_2_l1]
    rw [if_neg (by simp)]) (k := k) hk
  exact h
theorem crash_at {n : Nat} {s c a : Int} {d : Bool} {f p : M} {picks : List Int} (hp : KB s p) (hs : s ≤ 1000000) (hl : p.length + 1 < n) (hn : p.length ≤ 1000000) :
    disk_Disk_Crash_2 n (((), picks, ()), ((s, (), (), c, a, d, ()), f, p, ())) = some (((), ()), ((s, (), (), c, 0, false, ()), cgo f p (keys p) picks p.length, [], ())) := by
  obtain ⟨n, rfl⟩ : ∃ k, n = k + 1 := ⟨n - 1, by omega⟩
  obtain ⟨m, rfl⟩ : ∃ k, n = k + 1 := ⟨n - 1, by omega⟩
  simp only [disk_Disk_Crash_2, maps_Keys_map_int_byte_int_byte, sorted_at hp hs hn]
  have h := crash_loop (n := m + 1) (s := s) (c := c) (a := a) (d := d) (f := f) (p := p) (picks := picks) (ks := keys p) (k := m + 1) (by rw [keys_len]; omega) (by rw [keys_len]; omega)
  rw [h, keys_len]
end Go.Proofs.YtgpoomkbkckbaaaDoor.Pure
