/- The document's disk, in plain words. By this session. -/
import Derived.Test.YtgpoomkbkckbaaaDoorDiskPlaysP
import Derived.Test.YtgpoomkbkckbaaaDoorDiskPlaysS
namespace Go.Proofs.YtgpoomkbkckbaaaDoor.Pure
open Go Go.Proofs.YtgpoomkbkckbaaaDoor.Cm
set_option linter.unusedVariables false
set_option linter.unusedSimpArgs false
set_option maxRecDepth 100000
theorem rdP (l : M) (i : Nat) : rdT ty5 l (i : Int) = l.getD i (0, []) := rfl
def sts (l : M) (x : Int × List Int) : Nat → Bool × M
  | 0 => (false, [])
  | i + 1 =>
    let s := sts l x i
    let y := l.getD i (0, [])
    let s1 := if s.1 = false then (if y.1 ≥ x.1 then (true, s.2 ++ [x]) else s) else s
    if y.1 = x.1 then s1 else (s1.1, s1.2 ++ [y])
theorem sts_len (l : M) (x : Int × List Int) : ∀ i, (sts l x i).2.length ≤ 2 * i
  | 0 => Nat.le_refl _
  | i + 1 => by
    have h := sts_len l x i
    simp only [sts]
    split <;> split <;> (try split) <;> simp <;> omega
theorem sts_inv {l : M} (x : Int × List Int) (hu : Up l) : ∀ i, i ≤ l.length → ((sts l x i).1 = true → (∀ z ∈ l.drop i, x.1 < z.1) ∧ (sts l x i).2 ++ l.drop i = insB x l) ∧ ((sts l x i).1 = false → (sts l x i).2 ++ insB x (l.drop i) = insB x l)
  | 0, _ => ⟨fun h => (by cases h), fun _ => rfl⟩
  | i + 1, hi => by
    obtain ⟨h1, h2⟩ := sts_inv x hu i (by omega)
    have hd : l.drop i = l.getD i (0, []) :: l.drop (i + 1) := by
      rw [List.drop_eq_getElem_cons (by omega), List.getD_eq_getElem?_getD, List.getElem?_eq_getElem (by omega)]; rfl
    have hup : Up (l.getD i (0, []) :: l.drop (i + 1)) := by rw [← hd]; exact hu.sublist (List.drop_sublist _ _)
    have hgt := (List.pairwise_cons.1 hup).1
    rw [hd] at h1 h2
    obtain ⟨y, hy⟩ : ∃ y, l.getD i (0, []) = y := ⟨_, rfl⟩
    rw [hy] at h1 h2 hgt
    have hs : sts l x (i + 1) = (if y.1 = x.1 then (if (sts l x i).1 = false then (if y.1 ≥ x.1 then (true, (sts l x i).2 ++ [x]) else sts l x i) else sts l x i) else ((if (sts l x i).1 = false then (if y.1 ≥ x.1 then (true, (sts l x i).2 ++ [x]) else sts l x i) else sts l x i).1, (if (sts l x i).1 = false then (if y.1 ≥ x.1 then (true, (sts l x i).2 ++ [x]) else sts l x i) else sts l x i).2 ++ [y])) := by rw [← hy]; rfl
    rw [hs]
    cases hq : (sts l x i).1 with
    | true =>
      obtain ⟨h3, h4⟩ := h1 hq
      have hyx := h3 y (.head _)
      rw [if_neg (show ¬ y.1 = x.1 by omega)]
      simp only [Bool.true_eq_false, if_false]
      rw [hq]
      refine ⟨fun _ => ⟨fun z hz => h3 z (.tail _ hz), by rw [← h4]; simp⟩, fun h => by cases h⟩
    | false =>
      have h4 := h2 hq
      simp only [if_true]
      by_cases hge : y.1 ≥ x.1
      · simp only [if_pos hge]
        by_cases he : y.1 = x.1
        · simp only [if_pos he]
          refine ⟨fun _ => ⟨fun z hz => by have := hgt z hz; omega, ?_⟩, fun h => by cases h⟩
          rw [← h4, insB, if_neg (by omega), if_pos he]; simp
        · simp only [if_neg he]
          refine ⟨fun _ => ⟨fun z hz => by have := hgt z hz; omega, ?_⟩, fun h => by cases h⟩
          rw [← h4, insB, if_neg (by omega), if_neg he]; simp
      · simp only [if_neg hge]
        rw [if_neg (show ¬ y.1 = x.1 by omega)]
        simp only [hq]
        refine ⟨fun h => (by cases h), fun _ => ?_⟩
        rw [← h4, insB, if_pos (by omega)]; simp
theorem with_at {n : Nat} {l : M} {k : Int} {v : List Int} (hu : Up l) (hn : l.length + 1 < n) (hl : l.length ≤ 1000000) : ref3_with_2 n ((l, (k, v, ()), ()), ()) = some ((insB (k, v) l, ()), ()) := by
  obtain ⟨n, rfl⟩ : ∃ k, n = k + 1 := ⟨n - 1, by omega⟩
  have h := for_all (F := ref3_with_2_l4 n) (len := l.length) (fun i => ((l, (), (), (sts l (k, v) i).1, (i : Int), ()), ((k, v, ()), (sts l (k, v) i).2, ()))) (r := some (.inl (((), (), (sts l (k, v) l.length).1, ()), ((k, v, ()), (sts l (k, v) l.length).2, ())))) (fun i m hi => by
    have hlen := sts_len l (k, v) i
    obtain ⟨y, hy⟩ : ∃ y, l.getD i (0, []) = y := ⟨_, rfl⟩
    obtain ⟨d, o, hdo⟩ : ∃ d o, sts l (k, v) i = (d, o) := ⟨_, _, rfl⟩
    have hs : sts l (k, v) (i + 1) = (if y.1 = k then (if d = false then (if y.1 ≥ k then (true, o ++ [(k, v)]) else (d, o)) else (d, o)) else ((if d = false then (if y.1 ≥ k then (true, o ++ [(k, v)]) else (d, o)) else (d, o)).1, (if d = false then (if y.1 ≥ k then (true, o ++ [(k, v)]) else (d, o)) else (d, o)).2 ++ [y])) := by
      rw [← hy]; simp only [sts, hdo]
    rw [hdo] at hlen ⊢
    rw [hs]
    have h0 : (0 : Int) ≤ (i : Int) ∧ (i : Int) < (l.length : Int) := by omega
    have hrd : rdT ty5 l (i : Int) = y := hy
    have hlen' : o.length ≤ 2 * i := hlen
    have fin : ∀ (d' : Bool) (o' : M), o'.length ≤ 2 * i + 1 → (if 0 ≤ (i : Int) ∧ (i : Int) < (l.length : Int) then
          if (rdT ty5 l (i : Int)).1 != k then
            if 0 ≤ (i : Int) ∧ (i : Int) < (l.length : Int) then
              if (o'.length + ([(rdT ty5 l (i : Int))] : List ty5.T).length) * 32 ≤ 140737488355328 then
                ref3_with_2_l4 n m ((l, (), (), d', IntKind.i64.wrap ((i : Int) + 1), ()), ((k, v, ()), o' ++ [(rdT ty5 l (i : Int))], ())) else none else none
          else
            ref3_with_2_l4 n m ((l, (), (), d', IntKind.i64.wrap ((i : Int) + 1), ()), ((k, v, ()), o', ())) else none) =
        ref3_with_2_l4 n m ((l, (), (), (if y.1 = k then (d', o') else (d', o' ++ [y])).1, ((i + 1 : Nat) : Int), ()), ((k, v, ()), (if y.1 = k then (d', o') else (d', o' ++ [y])).2, ())) := by
      intro d' o' ho
      rw [if_pos h0, hrd, w64_up i (by omega)]
      by_cases he : y.1 = k
      · rw [if_neg (by simp [he])]
        simp only [if_pos he]
      · rw [if_pos (by simpa using he), if_pos h0, if_pos (by simp; omega)]
        simp only [if_neg he]
    simp only [ref3_with_2_l4]
    rw [if_pos (decide_eq_true (show (i : Int) < (l.length : Int) by omega))]
    cases d with
    | true =>
      simp only [ref3_with_2_c9, Bool.not_true, Bool.false_eq_true, if_false, Bool.true_eq_false]
      refine (fin true o (by omega)).trans ?_
      by_cases he : y.1 = k <;> simp only [he, if_true, if_false]
    | false =>
      simp only [ref3_with_2_c9, Bool.not_false, if_true]
      rw [if_pos h0, hrd]
      by_cases hge : y.1 ≥ k
      · rw [if_pos (decide_eq_true hge), if_pos (by simp; omega)]
        simp only [if_pos hge]
        refine (fin true (o ++ [(k, v)]) (by simp; omega)).trans ?_
        by_cases he : y.1 = k <;> simp only [he, if_true, if_false]
      · rw [if_neg (by simpa using hge)]
        simp only [if_neg hge]
        refine (fin false o (by omega)).trans ?_
        by_cases he : y.1 = k <;> simp only [he, if_true, if_false]) (fun m => by
    simp only [ref3_with_2_l4]
    rw [if_neg (by simp)]) (k := n) (by omega)
  obtain ⟨h1, h2⟩ := sts_inv (k, v) hu l.length (Nat.le_refl _)
  have hlen := sts_len l (k, v) l.length
  simp only [ref3_with_2]
  have h' : ref3_with_2_l4 n n ((l, (), (), false, 0, ()), ((k, v, ()), [], ())) = some (.inl (((), (), (sts l (k, v) l.length).1, ()), ((k, v, ()), (sts l (k, v) l.length).2, ()))) := h
  rw [h']
  simp only []
  cases hq : (sts l (k, v) l.length).1 with
  | true =>
    have := (h1 hq).2
    rw [List.drop_length, List.append_nil] at this
    simp only [Bool.not_true, Bool.false_eq_true, if_false, this]
  | false =>
    have := h2 hq
    rw [List.drop_length] at this
    simp only [Bool.not_false, if_true]
    rw [if_pos (by simp; omega)]
    exact congrArg (fun z => some ((z, ()), ())) this
theorem find_at {n : Nat} {l : M} {k : Int} (hn : l.length + 1 < n) (hl : l.length ≤ 1000000) :
    (ref3_find n ((l, k, ()), ()) = some ((-1, ()), ()) ∧ mfind ki k l = none) ∨ ∃ j : Nat, j < l.length ∧ ref3_find n ((l, k, ()), ()) = some (((j : Int), ()), ()) ∧ mfind ki k l = some (l.getD j (0, [])).2 := by
  obtain ⟨n, rfl⟩ : ∃ k, n = k + 1 := ⟨n - 1, by omega⟩
  have h := for_inv (F := ref3_find_l2 n) (len := l.length) (st := fun i => ((l, k, (i : Int), ()), ())) (fun i => mfind ki k l = mfind ki k (l.drop i))
    (fun r => (r = some (.inl ((), ())) ∧ mfind ki k l = none) ∨ ∃ j : Nat, j < l.length ∧ r = some (.inr (.inl (((j : Int), ()), ()))) ∧ mfind ki k l = some (l.getD j (0, [])).2) rfl
    (fun i m hi hI => by
      have hd : l.drop i = l.getD i (0, []) :: l.drop (i + 1) := by
        rw [List.drop_eq_getElem_cons (by omega), List.getD_eq_getElem?_getD, List.getElem?_eq_getElem (by omega)]; rfl
      rw [hd] at hI
      simp only [ref3_find_l2]
      rw [if_pos (decide_eq_true (show (i : Int) < (l.length : Int) by omega)), if_pos (show (0 : Int) ≤ (i : Int) ∧ (i : Int) < (l.length : Int) by omega), rdP]
      by_cases he : (l.getD i (0, [])).1 = k
      · refine .inr (.inr ⟨i, hi, ?_, ?_⟩)
        · rw [if_pos (by simpa using he)]
        · rw [hI, mfind, if_pos (by rw [← he]; exact ki_refl _)]
      · refine .inl ⟨?_, ?_⟩
        · rw [hI, mfind, if_neg (fun e => he (ki_eq _ _ e).symm)]
        · rw [if_neg (by simpa using he), w64_up i (by omega)])
    (fun m hI => by
      refine .inl ⟨?_, ?_⟩
      · simp only [ref3_find_l2]
        rw [if_neg (by simp)]
      · rw [hI, List.drop_length]; rfl) n (by omega)
  simp only [ref3_find]
  rcases h with ⟨h1, h2⟩ | ⟨j, h1, h2, h3⟩
  · have h1' : ref3_find_l2 n n ((l, k, 0, ()), ()) = some (.inl ((), ())) := h1
    rw [h1']
    exact .inl ⟨rfl, h2⟩
  · have h2' : ref3_find_l2 n n ((l, k, 0, ()), ()) = some (.inr (.inl (((j : Int), ()), ()))) := h2
    rw [h2']
    exact .inr ⟨j, h1, rfl, h3⟩
theorem bytes_at {n : Nat} {l : List Int} (hn : l.length + 1 < n) (hl : l.length ≤ 1000000) : ref_Bytes n ((l, ()), ()) = some (((), ()), (l, ())) := by
  obtain ⟨n, rfl⟩ : ∃ k, n = k + 1 := ⟨n - 1, by omega⟩
  have h := for_all (F := ref_Bytes_l3 n) (len := l.length) (fun i => ((l, (), (i : Int), ()), (l.take i, ()))) (r := some (.inl (((), ()), (l, ())))) (fun i k hi => by
    simp only [ref_Bytes_l3]
    rw [if_pos (decide_eq_true (show (i : Int) < (l.length : Int) by omega)), if_pos (show (0 : Int) ≤ (i : Int) ∧ (i : Int) < (l.length : Int) by omega), if_pos (by simp; omega), take_succ l i hi 0]
    simp only [w64_up i (by omega)]
    rfl) (fun k => by
    simp only [ref_Bytes_l3]
    rw [if_neg (by simp), List.take_length]) (k := n) (by omega)
  simp only [ref_Bytes]
  rw [if_pos (show (0 : Int) ≤ (0 : Int) ∧ (0 : Int) ≤ (l.length : Int) ∧ (l.length : Int) * ((1 : Nat) : Int) ≤ 140737488355328 ∧ (l.length : Int) ≤ 140737488355328 by omega)]
  have h' : ref_Bytes_l3 n n ((l, (), 0, ()), (List.replicate (0 : Int).toNat 0, ())) = some (.inl (((), ()), (l, ()))) := h
  rw [h']
section
variable {n : Nat} {s c a : Int} {d : Bool} {kept pend : M}
theorem power_at (hn : 1 ≤ n) (ha : 0 ≤ a ∧ a ≤ 9223372036854775807) : ref3_Disk_power_3 n (((), ()), ((s, c, kept, pend, a, d, ()), ())) = some ((!dn d a, ()), ((s, c, kept, pend, ar d a, dn d a, ()), ())) := by
  obtain ⟨n, rfl⟩ : ∃ k, n = k + 1 := ⟨n - 1, by omega⟩
  cases d with
  | true => simp only [ref3_Disk_power_3, dn, ar]; rfl
  | false =>
    simp only [ref3_Disk_power_3, Bool.false_eq_true, if_false]
    by_cases h : 0 < a
    · rw [if_pos (decide_eq_true h), w64_id (show -9223372036854775808 ≤ a - 1 by omega) (by omega)]
      by_cases h1 : a = 1
      · subst h1; rfl
      · rw [if_neg (by simp; omega)]
        simp only [dn, ar, Bool.false_eq_true, if_false, if_pos h, decide_eq_false h1]
        rfl
    · rw [if_neg (by simpa using h)]
      simp only [dn, ar, Bool.false_eq_true, if_false, if_neg h]
      rfl
theorem xwrite_down {i : Int} {b : List Int} (hn : 2 ≤ n) (ha : 0 ≤ a ∧ a ≤ 9223372036854775807) (hd : dn d a = true) : ref3_Disk_Write_3 n (((), i, b, ()), ((s, c, kept, pend, a, d, ()), ())) = some ((119, ()), ((s, c, kept, pend, ar d a, true, ()), ())) := by
  obtain ⟨n, rfl⟩ : ∃ k, n = k + 1 := ⟨n - 1, by omega⟩
  simp only [ref3_Disk_Write_3, power_at (show 1 ≤ n by omega) ha, hd]
  rfl
theorem xwrite_full {i : Int} {b : List Int} (hn : 2 ≤ n) (ha : 0 ≤ a ∧ a ≤ 9223372036854775807) (hd : dn d a = false) (h : i < 0 ∨ s ≤ i) : ref3_Disk_Write_3 n (((), i, b, ()), ((s, c, kept, pend, a, d, ()), ())) = some ((118, ()), ((s, c, kept, pend, ar d a, false, ()), ())) := by
  obtain ⟨n, rfl⟩ : ∃ k, n = k + 1 := ⟨n - 1, by omega⟩
  simp only [ref3_Disk_Write_3, power_at (show 1 ≤ n by omega) ha, hd, Bool.not_false, Bool.not_true, Bool.false_eq_true, if_false]
  by_cases h0 : i < 0
  · rw [if_pos (decide_eq_true h0)]
  · rw [if_neg (by simpa using h0), if_pos (decide_eq_true (h.resolve_left h0))]
theorem xwrite_many {i : Int} {b : List Int} (hn : 2 ≤ n) (ha : 0 ≤ a ∧ a ≤ 9223372036854775807) (hd : dn d a = false) (h0 : 0 ≤ i) (h1 : i < s) (h : 128 < b.length) : ref3_Disk_Write_3 n (((), i, b, ()), ((s, c, kept, pend, a, d, ()), ())) = some ((103, ()), ((s, c, kept, pend, ar d a, false, ()), ())) := by
  obtain ⟨n, rfl⟩ : ∃ k, n = k + 1 := ⟨n - 1, by omega⟩
  simp only [ref3_Disk_Write_3, power_at (show 1 ≤ n by omega) ha, hd, Bool.not_false, Bool.not_true, Bool.false_eq_true, if_false]
  rw [if_neg (by simp; omega), if_neg (by simp; omega), if_pos (decide_eq_true (by omega))]
theorem xwrite_ok {i : Int} {b : List Int} (ha : 0 ≤ a ∧ a ≤ 9223372036854775807) (hd : dn d a = false) (h0 : 0 ≤ i) (h1 : i < s) (h : b.length ≤ 128) (hc : 0 ≤ c ∧ c ≤ 1000000) (hu : Up pend) (hn : pend.length + 200 < n) (hl : pend.length ≤ 1000000) :
    ref3_Disk_Write_3 n (((), i, b, ()), ((s, c, kept, pend, a, d, ()), ())) = some ((0, ()), ((s, c + 1, kept, insB (i, b) pend, ar d a, false, ()), ())) := by
  obtain ⟨n, rfl⟩ : ∃ k, n = k + 1 := ⟨n - 1, by omega⟩
  simp only [ref3_Disk_Write_3, power_at (show 1 ≤ n by omega) ha, hd, Bool.not_false, Bool.not_true, Bool.false_eq_true, if_false]
  rw [if_neg (by simp; omega), if_neg (by simp; omega), if_neg (by simp; omega), bytes_at (by omega) (by omega)]
  simp only []
  rw [with_at hu (by omega) hl]
  simp only [w64_id (show -9223372036854775808 ≤ c + 1 by omega) (by omega)]
/-- The fold of the pending ones, so far. -/
def fgo (kept pend : M) (k : Nat) : M := (pend.take k).foldl (fun l x => insB x l) kept
theorem fgo_succ {kept pend : M} {k : Nat} (hk : k < pend.length) : fgo kept pend (k + 1) = insB (pend.getD k (0, [])) (fgo kept pend k) := by
  unfold fgo
  rw [take_succ pend k hk (0, []), List.foldl_append]
  rfl
theorem fold_up : ∀ (q : M) {l : M}, Up l → Up (q.foldl (fun l x => insB x l) l)
  | [], l, h => h
  | x :: q, l, h => fold_up q (insB_up x h)
theorem fold_len : ∀ (q l : M), (q.foldl (fun l x => insB x l) l).length ≤ l.length + q.length
  | [], l => Nat.le_refl _
  | x :: q, l => by
    have h1 := fold_len q (insB x l)
    have h2 := insB_len x l
    simp only [List.foldl_cons, List.length_cons]
    omega
theorem fgo_len (kept pend : M) (k : Nat) : (fgo kept pend k).length ≤ kept.length + pend.length := by
  have := fold_len (pend.take k) kept
  have h2 : (pend.take k).length ≤ pend.length := by rw [List.length_take]; omega
  unfold fgo
  omega
theorem fgo_up {kept pend : M} (hu : Up kept) (k : Nat) : Up (fgo kept pend k) := fold_up _ hu
theorem xflush_down (hn : 2 ≤ n) (ha : 0 ≤ a ∧ a ≤ 9223372036854775807) (hd : dn d a = true) : ref3_Disk_Flush_3 n (((), ()), ((s, c, kept, pend, a, d, ()), ())) = some ((119, ()), ((s, c, kept, pend, ar d a, true, ()), ())) := by
  obtain ⟨n, rfl⟩ : ∃ k, n = k + 1 := ⟨n - 1, by omega⟩
  simp only [ref3_Disk_Flush_3, power_at (show 1 ≤ n by omega) ha, hd]
  rfl
theorem xflush_ok (ha : 0 ≤ a ∧ a ≤ 9223372036854775807) (hd : dn d a = false) (hc : 0 ≤ c ∧ c ≤ 1000000) (hu : Up kept) (hn : kept.length + pend.length + 2 < n) (hl : kept.length + pend.length ≤ 1000000) :
    ref3_Disk_Flush_3 n (((), ()), ((s, c, kept, pend, a, d, ()), ())) = some ((0, ()), ((s, c + 1, pend.foldl (fun l x => insB x l) kept, [], ar d a, false, ()), ())) := by
  obtain ⟨n, rfl⟩ : ∃ k, n = k + 1 := ⟨n - 1, by omega⟩
  simp only [ref3_Disk_Flush_3, power_at (show 1 ≤ n by omega) ha, hd, Bool.not_false, Bool.not_true, Bool.false_eq_true, if_false]
  have h := for_all (F := ref3_Disk_Flush_3_l4 n) (len := pend.length) (fun i => (((), (i : Int), ()), ((s, c, fgo kept pend i, pend, ar d a, false, ()), ()))) (r := some (.inl (((), ()), ((s, c, fgo kept pend pend.length, pend, ar d a, false, ()), ())))) (fun i k hi => by
    have hlen := fgo_len kept pend i
    simp only [ref3_Disk_Flush_3_l4]
    rw [if_pos (decide_eq_true (show (i : Int) < (pend.length : Int) by omega)), if_pos (show (0 : Int) ≤ (i : Int) ∧ (i : Int) < (pend.length : Int) by omega), rdP, with_at (fgo_up hu i) (by omega) (by omega), fgo_succ hi]
    simp only [w64_up i (by omega)]) (fun k => by
    simp only [ref3_Disk_Flush_3_l4]
    rw [if_neg (by simp)]) (k := n) (by omega)
  have h' : ref3_Disk_Flush_3_l4 n n (((), 0, ()), ((s, c, kept, pend, ar d a, false, ()), ())) = some (.inl (((), ()), ((s, c, fgo kept pend pend.length, pend, ar d a, false, ()), ()))) := h
  rw [h']
  simp only [w64_id (show -9223372036854775808 ≤ c + 1 by omega) (by omega), fgo, List.take_length]
theorem xgo_up {picks : List Int} (hu : Up kept) : ∀ k, Up (xgo kept pend picks k)
  | 0 => hu
  | k + 1 => by
    rw [xgo_succ]
    unfold xstep
    split
    · exact insB_up _ (xgo_up hu k)
    · exact xgo_up hu k
theorem xgo_len {picks : List Int} : ∀ k, (xgo kept pend picks k).length ≤ kept.length + k
  | 0 => Nat.le_refl _
  | k + 1 => by
    rw [xgo_succ]
    have := xgo_len (picks := picks) k
    unfold xstep
    split
    · have := insB_len (pend.getD k (0, [])) (xgo kept pend picks k)
      omega
    · omega
theorem xcrash_at {picks : List Int} (hu : Up kept) (hn : kept.length + pend.length + 2 < n) (hl : kept.length + pend.length ≤ 1000000) :
    ref3_Disk_Crash_3 n (((), picks, ()), ((s, c, kept, pend, a, d, ()), ())) = some (((), ()), ((s, c, xgo kept pend picks pend.length, (), 0, false, ()), ())) := by
  obtain ⟨n, rfl⟩ : ∃ k, n = k + 1 := ⟨n - 1, by omega⟩
  simp only [ref3_Disk_Crash_3]
  have h := for_all (F := ref3_Disk_Crash_3_l1 n) (len := pend.length) (fun i => (((), picks, (i : Int), ()), ((s, c, xgo kept pend picks i, pend, a, d, ()), ()))) (r := some (.inl (((), ()), ((s, c, xgo kept pend picks pend.length, pend, a, d, ()), ())))) (fun i k hi => by
    have hlen := xgo_len (kept := kept) (pend := pend) (picks := picks) i
    simp only [ref3_Disk_Crash_3_l1]
    rw [if_pos (decide_eq_true (show (i : Int) < (pend.length : Int) by omega)), xgo_succ]
    simp only [w64_up i (by omega)]
    unfold xstep pick
    by_cases h1 : i < picks.length
    · rw [if_pos (decide_eq_true (show (i : Int) < (picks.length : Int) by omega)), if_pos (show (0 : Int) ≤ (i : Int) ∧ (i : Int) < (picks.length : Int) by omega), decide_eq_true h1, Bool.true_and]
      by_cases h2 : (bitsOp .and .i64 (picks.getD i 0) 1 == 1) = true
      · rw [if_pos h2, if_pos (show (0 : Int) ≤ (i : Int) ∧ (i : Int) < (pend.length : Int) by omega), rdP, with_at (xgo_up hu i) (by omega) (by omega)]
        exact (if_pos h2).trans rfl
      · rw [if_neg h2]
        exact (if_neg h2).trans rfl
    · rw [if_neg (by simpa using h1), decide_eq_false h1, Bool.false_and, if_neg (by decide)]) (fun k => by
    simp only [ref3_Disk_Crash_3_l1]
    rw [if_neg (by simp)]) (k := n) (by omega)
  have h' : ref3_Disk_Crash_3_l1 n n (((), picks, 0, ()), ((s, c, kept, pend, a, d, ()), ())) = some (.inl (((), ()), ((s, c, xgo kept pend picks pend.length, pend, a, d, ()), ()))) := h
  rw [h']
theorem xread_down {i : Int} (hn : 1 ≤ n) : ref3_Disk_Read_2 n (((), i, ()), ((s, c, kept, pend, a, true, ()), ())) = some (((([], ()), (false, ()), (119, ()), ()), ()), ((s, c, kept, pend, a, true, ()), ())) := by
  obtain ⟨n, rfl⟩ : ∃ k, n = k + 1 := ⟨n - 1, by omega⟩
  simp only [ref3_Disk_Read_2, if_true]
theorem xread_full {i : Int} (hn : 1 ≤ n) (h : i < 0 ∨ s ≤ i) : ref3_Disk_Read_2 n (((), i, ()), ((s, c, kept, pend, a, false, ()), ())) = some (((([], ()), (false, ()), (118, ()), ()), ()), ((s, c, kept, pend, a, false, ()), ())) := by
  obtain ⟨n, rfl⟩ : ∃ k, n = k + 1 := ⟨n - 1, by omega⟩
  simp only [ref3_Disk_Read_2, Bool.false_eq_true, if_false]
  by_cases h0 : i < 0
  · rw [if_pos (decide_eq_true h0)]
  · rw [if_neg (by simpa using h0), if_pos (decide_eq_true (h.resolve_left h0))]
theorem xread_at {i : Int} (h0 : 0 ≤ i) (h1 : i < s) (hn : kept.length + pend.length + 3 < n) (hl : kept.length + pend.length ≤ 1000000) :
    ref3_Disk_Read_2 n (((), i, ()), ((s, c, kept, pend, a, false, ()), ())) = some (((((sec kept pend i).getD [], ()), ((sec kept pend i).isSome, ()), (0, ()), ()), ()), ((s, c, kept, pend, a, false, ()), ())) := by
  obtain ⟨n, rfl⟩ : ∃ k, n = k + 1 := ⟨n - 1, by omega⟩
  simp only [ref3_Disk_Read_2, Bool.false_eq_true, if_false]
  rw [if_neg (by simp; omega), if_neg (by simp; omega)]
  unfold sec
  rcases find_at (n := n) (l := pend) (k := i) (by omega) (by omega) with ⟨f1, f2⟩ | ⟨j, f1, f2, f3⟩
  · rw [f1, f2]
    simp only []
    rw [if_neg (by decide)]
    rcases find_at (n := n) (l := kept) (k := i) (by omega) (by omega) with ⟨g1, g2⟩ | ⟨j, g1, g2, g3⟩
    · rw [g1, g2]
      simp only []
      rw [if_neg (by decide)]
      rfl
    · rw [g2, g3]
      simp only []
      rw [if_pos (decide_eq_true (show (j : Int) ≥ 0 by omega)), if_pos (show (0 : Int) ≤ (j : Int) ∧ (j : Int) < (kept.length : Int) by omega), rdP]
      rfl
  · rw [f2, f3]
    simp only []
    rw [if_pos (decide_eq_true (show (j : Int) ≥ 0 by omega)), if_pos (show (0 : Int) ≤ (j : Int) ∧ (j : Int) < (pend.length : Int) by omega), rdP]
    rfl
end
end Go.Proofs.YtgpoomkbkckbaaaDoor.Pure
