/- DepsSays, in plain words: rows that rise; what equations use. By this session. -/
import Derived.Test.YtnajjhjbkanigaaDoorDepsSaysD
namespace Go.Proofs.YtnajjhjbkanigaaDoor.Pure
open Go Go.Proofs.YtnajjhjbkanigaaDoor.Cm
open Classical
set_option linter.unusedVariables false
set_option linter.unusedSimpArgs false
set_option maxRecDepth 100000
theorem comp_upto (d : Array (List UInt8)) (hs : ∀ i j, i < j → j < d.size → d[i]! ≤ d[j]!) : ∀ m, m ≤ d.size → (Lib.compactUpTo d m).Pairwise (· < ·) ∧ ∀ x, x ∈ Lib.compactUpTo d m ↔ ∃ j, j < m ∧ d[j]! = x := by
  intro m
  induction m with
  | zero =>
    intro _
    have e : Lib.compactUpTo d 0 = [] := rfl
    rw [e]
    refine ⟨.nil, fun x => ⟨fun h => (by cases h), ?_⟩⟩
    rintro ⟨j, hj, _⟩
    omega
  | succ m ih =>
    intro hm
    obtain ⟨h1, h2⟩ := ih (by omega)
    rw [Lib.compactUpTo_succ]
    by_cases hk : Lib.keeps d m = true
    · rw [if_pos hk]
      refine ⟨List.pairwise_append.2 ⟨h1, List.pairwise_singleton .., fun a ha b hb => ?_⟩, fun x => ?_⟩
      · rw [List.mem_singleton] at hb
        subst hb
        obtain ⟨j, hj, rfl⟩ := (h2 a).1 ha
        have hne : d[m]! ≠ d[m - 1]! := by
          have := of_decide_eq_true hk
          rcases this with h | h
          · omega
          · exact h
        have hl : d[m - 1]! < d[m]! := by
          rcases List.le_iff_lt_or_eq.1 (hs (m - 1) m (by omega) (by omega)) with h | h
          · exact h
          · exact absurd h.symm hne
        by_cases e : j = m - 1
        · rw [e]; exact hl
        · rcases List.le_iff_lt_or_eq.1 (hs j (m - 1) (by omega) (by omega)) with h | h
          · exact List.lt_trans h hl
          · rw [h]; exact hl
      · rw [List.mem_append, h2 x, List.mem_singleton]
        constructor
        · rintro (⟨j, hj, e⟩ | rfl)
          · exact ⟨j, by omega, e⟩
          · exact ⟨m, by omega, rfl⟩
        · rintro ⟨j, hj, e⟩
          by_cases e2 : j = m
          · exact .inr (by rw [← e, e2])
          · exact .inl ⟨j, by omega, e⟩
    · rw [if_neg hk, List.append_nil]
      refine ⟨h1, fun x => ?_⟩
      rw [h2 x]
      have hq : ¬ (m = 0 ∨ d[m]! ≠ d[m - 1]!) := fun h => hk (decide_eq_true h)
      have hm0 : m ≠ 0 := fun h => hq (.inl h)
      have he : d[m]! = d[m - 1]! := Decidable.not_not.1 fun h => hq (.inr h)
      constructor
      · rintro ⟨j, hj, e⟩
        exact ⟨j, by omega, e⟩
      · rintro ⟨j, hj, e⟩
        by_cases e2 : j = m
        · exact ⟨m - 1, by omega, by rw [← he, ← e2]; exact e⟩
        · exact ⟨j, by omega, e⟩
theorem compS_spec {l : SL} (h : (l.map fun q : ByteArray => q.data.toList).Pairwise (· ≤ ·)) : Rising (compS l) ∧ ∀ x, x ∈ compS l ↔ x ∈ l := by
  have hsz : (l.map fun q : ByteArray => q.data.toList).toArray.size = l.length := by simp
  have hget : ∀ j (hj : j < l.length), (l.map fun q : ByteArray => q.data.toList).toArray[j]! = (l[j]'hj).data.toList := fun j hj => by simp [hj]
  have hs : ∀ i j, i < j → j < (l.map fun q : ByteArray => q.data.toList).toArray.size → (l.map fun q : ByteArray => q.data.toList).toArray[i]! ≤ (l.map fun q : ByteArray => q.data.toList).toArray[j]! := fun i j hij hj => by
    rw [hsz] at hj
    rw [hget i (by omega), hget j hj]
    have := List.pairwise_iff_getElem.1 h i j (by simp; omega) (by simp; omega) hij
    simpa using this
  obtain ⟨h1, h2⟩ := comp_upto _ hs l.length (by rw [hsz]; exact Nat.le_refl _)
  have hc : compS l = (Lib.compactUpTo (l.map fun q : ByteArray => q.data.toList).toArray l.length).map fun b => ⟨b.toArray⟩ := by
    unfold compS Lib.compact
    rw [List.length_map]
  rw [hc]
  refine ⟨?_, fun x => ?_⟩
  · unfold Rising
    rw [List.pairwise_map]
    exact List.Pairwise.imp (fun {a b} hab => by rw [strLt_eq]; exact decide_eq_true hab) h1
  · rw [List.mem_map]
    constructor
    · rintro ⟨b, hb, rfl⟩
      obtain ⟨j, hj, rfl⟩ := (h2 b).1 hb
      rw [hget j hj]
      have : (⟨(l[j]'hj).data.toList.toArray⟩ : ByteArray) = l[j]'hj := by simp
      rw [this]
      exact List.getElem_mem hj
    · intro hx
      obtain ⟨j, hj, rfl⟩ := List.mem_iff_getElem.1 hx
      exact ⟨(l[j]'hj).data.toList, (h2 _).2 ⟨j, hj, hget j hj⟩, by simp⟩
theorem comp_sort (l : SL) : Rising (compS (sortS l)) ∧ ∀ x, x ∈ compS (sortS l) ↔ x ∈ l := by
  obtain ⟨h1, h2⟩ := compS_spec (sortS_spec l).2
  exact ⟨h1, fun x => by rw [h2 x, (sortS_perm l).mem_iff]⟩
theorem strLt_tot {a x : ByteArray} (h : strLt a x = false) (hne : a ≠ x) : strLt x a = true := by
  rw [strLt_eq] at h ⊢
  refine decide_eq_true ?_
  rcases List.le_iff_lt_or_eq.1 (List.not_lt.1 (of_decide_eq_false h)) with h | h
  · exact h
  · exact absurd (str_ext h).symm hne
theorem cutL_take (l : SL) (k : Nat) : cutL l 0 (k : Int) = l.take k := by
  unfold cutL
  rw [Int.toNat_natCast, Int.toNat_zero, List.drop_zero]
theorem cutL_drop (l : SL) (k : Nat) : cutL l (k : Int) (l.length : Int) = l.drop k := by
  unfold cutL
  rw [Int.toNat_natCast, Int.toNat_natCast, List.take_length]
/-- One name is put where it belongs. -/
theorem put_in {out : SL} (h : Rising out) {x : ByteArray} {k : Nat} (h1 : ∀ j, j < k → strLt (out.getD j (Ty.dflt .str)) x = true) (h2 : k < out.length → strLt (out.getD k (Ty.dflt .str)) x = false ∧ out.getD k (Ty.dflt .str) ≠ x) (hk : k ≤ out.length) : Rising (out.take k ++ [x] ++ out.drop k) := by
  have hd : Rising (out.drop k) := List.Pairwise.sublist (List.drop_sublist k out) h
  have ha : ∀ y ∈ out.take k, strLt y x = true := fun y hy => by
    obtain ⟨j, hj, rfl⟩ := List.mem_iff_getElem.1 hy
    rw [List.length_take] at hj
    have := h1 j (by omega)
    rw [List.getD_eq_getElem?_getD, List.getElem?_eq_getElem (show j < out.length by omega)] at this
    rw [List.getElem_take]
    exact this
  have hb : ∀ y ∈ out.drop k, strLt x y = true := fun y hy => by
    have hkl : k < out.length := by
      rcases Nat.lt_or_ge k out.length with h | h
      · exact h
      · rw [List.drop_eq_nil_of_le h] at hy; cases hy
    obtain ⟨q1, q2⟩ := h2 hkl
    have e : out.drop k = out.getD k (Ty.dflt .str) :: out.drop (k + 1) := by
      rw [List.drop_eq_getElem_cons hkl, List.getD_eq_getElem?_getD, List.getElem?_eq_getElem hkl]
      rfl
    have hx := strLt_tot q1 q2
    unfold Rising at hd
    rw [e, List.pairwise_cons] at hd
    rw [e] at hy
    rcases List.mem_cons.1 hy with rfl | hy
    · exact hx
    · exact strLt_trans hx (hd.1 y hy)
  unfold Rising
  rw [List.append_assoc, List.pairwise_append]
  refine ⟨List.Pairwise.sublist (List.take_sublist k out) h, ?_, fun a ha' b hb' => ?_⟩
  · rw [List.pairwise_append]
    exact ⟨List.pairwise_singleton .., hd, fun a ha' b hb' => by rw [List.mem_singleton] at ha'; rw [ha']; exact hb b hb'⟩
  · rcases List.mem_append.1 hb' with hb' | hb'
    · rw [List.mem_singleton] at hb'; rw [hb']; exact ha a ha'
    · exact strLt_trans (ha a ha') (hb b hb')
theorem rising_l6 {n : Nat} (l out : SL) (i : Nat) (hi : i < l.length) (hn : out.length < n) (hN : out.length < 1000000) : ∃ k : Nat, k ≤ out.length ∧ (∀ j, j < k → strLt (out.getD j (Ty.dflt .str)) (l.getD i (Ty.dflt .str)) = true) ∧ (k < out.length → strLt (out.getD k (Ty.dflt .str)) (l.getD i (Ty.dflt .str)) = false) ∧ ref_Rising_l6 n n (((), (), (i : Int), 0, ()), (l, out, ())) = some (.inl (((), (), (i : Int), (k : Int), ()), (l, out, ()))) := by
  exact for_inv (F := ref_Rising_l6 n) (len := out.length) (st := fun k => (((), (), (i : Int), (k : Int), ()), (l, out, ()))) (fun k => ∀ j, j < k → strLt (out.getD j (Ty.dflt .str)) (l.getD i (Ty.dflt .str)) = true) (fun r => ∃ k : Nat, k ≤ out.length ∧ (∀ j, j < k → strLt (out.getD j (Ty.dflt .str)) (l.getD i (Ty.dflt .str)) = true) ∧ (k < out.length → strLt (out.getD k (Ty.dflt .str)) (l.getD i (Ty.dflt .str)) = false) ∧ r = some (.inl (((), (), (i : Int), (k : Int), ()), (l, out, ())))) (fun j hj => by omega) (fun k q hk hI => by
    rw [ref_Rising_l6, if_pos (decide_eq_true (show (k : Int) < (out.length : Int) by omega)), if_pos (show 0 ≤ (k : Int) ∧ (k : Int) < (out.length : Int) from ⟨by omega, by omega⟩), if_pos (show 0 ≤ (i : Int) ∧ (i : Int) < (l.length : Int) from ⟨by omega, by omega⟩), rdT_nat, rdT_nat]
    cases hc : strLt (out.getD k (Ty.dflt .str)) (l.getD i (Ty.dflt .str)) with
    | true =>
      refine .inl ⟨fun j hj => ?_, ?_⟩
      · by_cases e : j = k
        · rw [e]; exact hc
        · exact hI j (by omega)
      · rw [if_pos rfl, w64_up k (by omega)]
    | false => exact .inr ⟨k, by omega, hI, fun _ => hc, by rw [if_neg (by decide)]⟩) (fun q hI => ⟨out.length, Nat.le_refl _, hI, fun h => by omega, by rw [ref_Rising_l6, if_neg (by simp)]⟩) n hn
theorem rising_l3 {n : Nat} (l : SL) (hn : l.length < n) (hN : l.length < 1000000) : ∃ R : SL, Rising R ∧ R.length ≤ l.length ∧ (∀ x, x ∈ R ↔ x ∈ l) ∧ ref_Rising_l3 n n (((), (), 0, ()), (l, [], ())) = some (.inl (((), ()), (l, R, ()))) := by
  have main : ∀ d i k (out : SL), i + d = l.length → d < k → Rising out → out.length ≤ i → (∀ x, x ∈ out ↔ x ∈ l.take i) → ∃ R : SL, Rising R ∧ R.length ≤ l.length ∧ (∀ x, x ∈ R ↔ x ∈ l) ∧ ref_Rising_l3 n k (((), (), (i : Int), ()), (l, out, ())) = some (.inl (((), ()), (l, R, ()))) := by
    intro d
    induction d with
    | zero =>
      intro i k out hi hk h1 h2 h3
      obtain ⟨k, rfl⟩ : ∃ q, k = q + 1 := ⟨k - 1, by omega⟩
      refine ⟨out, h1, by omega, fun x => ?_, by rw [ref_Rising_l3, if_neg (by simp; omega)]⟩
      rw [h3 x, List.take_of_length_le (by omega)]
    | succ d ih =>
      intro i k out hi hk h1 h2 h3
      obtain ⟨k, rfl⟩ : ∃ q, k = q + 1 := ⟨k - 1, by omega⟩
      obtain ⟨p, p1, p2, p3, p4⟩ := rising_l6 (n := n) l out i (by omega) (by omega) (by omega)
      rw [ref_Rising_l3, if_pos (decide_eq_true (show (i : Int) < (l.length : Int) by omega)), p4]
      simp only []
      by_cases hc : p < out.length ∧ out.getD p (Ty.dflt .str) = l.getD i (Ty.dflt .str)
      · have e9 : ref_Rising_c9 n (((), (), (i : Int), (p : Int), ()), (l, out, ())) = some (.inl (((), (), (i : Int), ()), (l, out, ()))) := by
          rw [ref_Rising_c9, if_pos (decide_eq_true (show (p : Int) < (out.length : Int) by omega)), if_pos (show 0 ≤ (p : Int) ∧ (p : Int) < (out.length : Int) from ⟨by omega, by omega⟩), if_pos (show 0 ≤ (i : Int) ∧ (i : Int) < (l.length : Int) from ⟨by omega, by omega⟩), rdT_nat, rdT_nat, strEq_iff, decide_eq_true hc.2, if_pos rfl]
        rw [e9]
        simp only []
        rw [w64_up i (by omega)]
        refine ih (i + 1) k out (by omega) (by omega) h1 (by omega) fun x => ?_
        rw [take_succ l i (by omega) (Ty.dflt .str), List.mem_append, List.mem_singleton, ← h3 x]
        refine ⟨.inl, fun h => ?_⟩
        rcases h with h | rfl
        · exact h
        · rw [← hc.2]; exact getD_mem out p hc.1 _
      · have e9 : ref_Rising_c9 n (((), (), (i : Int), (p : Int), ()), (l, out, ())) = some (.inr (.inl (((), (), (i : Int), (p : Int), ()), (l, out, ())))) := by
          rw [ref_Rising_c9]
          by_cases hp : p < out.length
          · rw [if_pos (decide_eq_true (show (p : Int) < (out.length : Int) by omega)), if_pos (show 0 ≤ (p : Int) ∧ (p : Int) < (out.length : Int) from ⟨by omega, by omega⟩), if_pos (show 0 ≤ (i : Int) ∧ (i : Int) < (l.length : Int) from ⟨by omega, by omega⟩), rdT_nat, rdT_nat, strEq_iff, decide_eq_false (fun h => hc ⟨hp, h⟩), if_neg (by decide)]
          · rw [if_neg (by simpa using hp)]
        rw [e9]
        simp only []
        have hto : (out.take p).length ≤ out.length := by rw [List.length_take]; omega
        have hdo : (out.drop p).length ≤ out.length := by rw [List.length_drop]; omega
        have hsum : (out.take p).length + (out.drop p).length = out.length := by rw [List.length_take, List.length_drop]; omega
        rw [w64_up out.length (by omega), if_pos (show 0 ≤ (0 : Int) ∧ (0 : Int) ≤ ((out.length + 1 : Nat) : Int) ∧ ((out.length + 1 : Nat) : Int) * ((16 : Nat) : Int) ≤ 140737488355328 ∧ ((out.length + 1 : Nat) : Int) ≤ 140737488355328 from ⟨by omega, by omega, by omega, by omega⟩)]
        rw [if_pos (show 0 ≤ (p : Int) ∧ (p : Int) ≤ (out.length : Int) from ⟨by omega, by omega⟩), cutL_take]
        have r0 : (List.replicate (0 : Int).toNat (⟨#[]⟩ : ByteArray)) = [] := rfl
        rw [r0, if_pos (by rw [List.length_nil]; omega), if_pos (show 0 ≤ (i : Int) ∧ (i : Int) < (l.length : Int) from ⟨by omega, by omega⟩), List.nil_append, if_pos (by simp only [List.length_cons, List.length_nil]; omega), if_pos (show 0 ≤ (p : Int) ∧ (p : Int) ≤ (out.length : Int) from ⟨by omega, by omega⟩), cutL_drop, if_pos (by simp only [List.length_append, List.length_cons, List.length_nil]; omega), w64_up i (by omega), rdT_nat]
        refine ih (i + 1) k (out.take p ++ [l.getD i (Ty.dflt .str)] ++ out.drop p) (by omega) (by omega) (put_in h1 p2 (fun hp => ⟨p3 hp, fun e => hc ⟨hp, e⟩⟩) p1) (by simp only [List.length_append, List.length_cons, List.length_nil]; omega) fun x => ?_
        rw [take_succ l i (by omega) (Ty.dflt .str), List.mem_append (s := List.take i l), List.mem_singleton, ← h3 x]
        have e : x ∈ out ↔ x ∈ out.take p ∨ x ∈ out.drop p := by rw [← List.mem_append, List.take_append_drop]
        rw [e, List.mem_append, List.mem_append, List.mem_singleton]
        constructor
        · rintro ((h | h) | h)
          · exact .inl (.inl h)
          · exact .inr h
          · exact .inl (.inr h)
        · rintro ((h | h) | h)
          · exact .inl (.inl h)
          · exact .inr h
          · exact .inl (.inr h)
  exact main l.length 0 n [] (by omega) hn .nil (by simp) (fun x => by simp)
theorem rising_ref {n : Nat} (l : SL) (hn : l.length + 1 < n) (hN : l.length < 1000000) : ∃ R : SL, Rising R ∧ R.length ≤ l.length ∧ (∀ x, x ∈ R ↔ x ∈ l) ∧ ref_Rising n (((), ()), (l, ())) = some (((), ()), (l, R, ())) := by
  obtain ⟨n, rfl⟩ : ∃ q, n = q + 1 := ⟨n - 1, by omega⟩
  obtain ⟨R, h1, h2, h3, h4⟩ := rising_l3 (n := n) l (by omega) hN
  exact ⟨R, h1, h2, h3, by rw [ref_Rising, h4]⟩
end Go.Proofs.YtnajjhjbkanigaaDoor.Pure
