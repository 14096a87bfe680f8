/- Plain words for the plain laws: what a printed function answers with rounds enough ('Ans'), counting up, reading a list at a place. By this session. -/
import Derived.Test.YtjccbolnjnefiaaDoorWWords
namespace Go.Proofs.YtjccbolnjnefiaaDoor.Pl
open Go.RowKit Go.Proofs.YtjccbolnjnefiaaDoorW.PrintWords
set_option linter.unusedVariables false

/-- With rounds enough F answers r. -/
def Ans {ρ : Type} (F : Nat → Option ρ) (r : ρ) : Prop := ∃ m, ∀ k, m ≤ k → F k = some r
section
variable {ρ α β : Type}
theorem Ans.some (r : ρ) : Ans (fun _ => Option.some r) r := ⟨0, fun _ _ => rfl⟩
theorem Ans.of_eq {F : Nat → Option ρ} {r : ρ} (h : ∀ k, F k = Option.some r) : Ans F r := ⟨0, fun k _ => h k⟩
theorem Ans.congr {F G : Nat → Option ρ} {r : ρ} (hG : Ans G r) (h : ∀ k, F k = G k) : Ans F r := hG.imp fun m hm k hk => (h k).trans (hm k hk)
theorem Ans.succ {F G : Nat → Option ρ} {r : ρ} (h : ∀ k, F (k + 1) = G k) (hG : Ans G r) : Ans F r := by
  obtain ⟨m, hm⟩ := hG
  refine ⟨m + 1, fun k hk => ?_⟩
  obtain ⟨k, rfl⟩ : ∃ q, k = q + 1 := ⟨k - 1, by omega⟩
  rw [h]
  exact hm k (by omega)
theorem Ans.succ2 {F G : Nat → Option ρ} {r : ρ} (h : ∀ k, F (k + 1 + 1) = G k) (hG : Ans G r) : Ans F r := Ans.succ (G := fun k => F (k + 1)) (fun _ => rfl) (Ans.succ h hG)
theorem Ans.bind {F : Nat → Option α} {G : Nat → α → Option β} {a : α} {r : β} (h : Ans F a) (k : Ans (fun n => G n a) r) : Ans (fun n => (F n).bind (fun x => G n x)) r := by
  obtain ⟨m, hm⟩ := h
  obtain ⟨q, hq⟩ := k
  exact ⟨max m q, fun n hn => by show (F n).bind (fun x => G n x) = _; rw [hm n (by omega), Option.bind_some]; exact hq n (by omega)⟩
theorem Ans.shift {F : Nat → Option ρ} {r : ρ} (h : Ans F r) : Ans (fun k => F (k + 1)) r := h.imp fun m hm k hk => hm (k + 1) (by omega)
theorem Ans.ite_pos {c : Prop} [Decidable c] {F G : Nat → Option ρ} {r : ρ} (hc : c) (h : Ans F r) : Ans (fun k => if c then F k else G k) r := h.congr fun k => if_pos hc
theorem Ans.ite_neg {c : Prop} [Decidable c] {F G : Nat → Option ρ} {r : ρ} (hc : ¬ c) (h : Ans G r) : Ans (fun k => if c then F k else G k) r := h.congr fun k => if_neg hc
theorem Ans.ite {c : Prop} [Decidable c] {F G : Nat → Option ρ} {r : ρ} (h1 : c → Ans F r) (h2 : ¬ c → Ans G r) : Ans (fun k => if c then F k else G k) r := by
  by_cases hc : c
  · exact Ans.ite_pos hc (h1 hc)
  · exact Ans.ite_neg hc (h2 hc)
theorem Ans.exists {F : Nat → Option ρ} {r : ρ} (h : Ans F r) : ∃ k, F k = Option.some r := h.elim fun m hm => ⟨m, hm m (Nat.le_refl m)⟩
theorem mono_le {F : Nat → Option ρ} (h : ∀ k, LeO (F k) (F (k + 1))) {a : Nat} : ∀ b, a ≤ b → LeO (F a) (F b)
  | 0, hb => by
    have h0 : a = 0 := by omega
    rw [h0]
    exact LeO.refl _
  | b + 1, hb => by
    rcases Nat.lt_or_ge a (b + 1) with hlt | hge
    · exact LeO.trans (mono_le h b (by omega)) (h b)
    · obtain rfl : a = b + 1 := by omega
      exact LeO.refl _
theorem Ans.of_mono {F : Nat → Option ρ} (h : ∀ k, LeO (F k) (F (k + 1))) {m : Nat} {r : ρ} (hm : F m = Option.some r) : Ans F r := ⟨m, fun k hk => mono_le h k hk r hm⟩
/-- One answer alone. -/
theorem Ans.unique {F : Nat → Option ρ} {r s : ρ} (h : Ans F r) (k : Ans F s) : r = s := by
  obtain ⟨m, hm⟩ := h
  obtain ⟨q, hq⟩ := k
  exact Option.some.inj ((hm (max m q) (by omega)).symm.trans (hq (max m q) (by omega)))
end

theorem up (i : Nat) (h : i < 4611686018427387904) : wrap64 ((i : Int) + 1) = ((i + 1 : Nat) : Int) := by unfold wrap64; omega
theorem wrap64_id {x : Int} (h0 : -9223372036854775808 ≤ x) (h1 : x ≤ 9223372036854775807) : wrap64 x = x := by unfold wrap64; omega
theorem rd_nat (xs : List Int) (i : Nat) : rd xs (i : Int) = xs.getD i 0 := rfl
theorem wf64 {x : Int} (h : (Lit.int .i64 x).wf = true) : -9223372036854775808 ≤ x ∧ x ≤ 9223372036854775807 := by
  simpa [Lit.wf, IntKind.min, IntKind.max, IntKind.bits, IntKind.signed] using h
theorem getD_drop {α : Type} (xs : List α) (i : Nat) (z : α) (h : i < xs.length) : xs.drop i = xs.getD i z :: xs.drop (i + 1) := by
  rw [List.drop_eq_getElem_cons h, List.getD_eq_getElem?_getD, List.getElem?_eq_getElem h]; rfl
theorem take_getD {α : Type} (xs : List α) (i : Nat) (z : α) (h : i < xs.length) : xs.take (i + 1) = xs.take i ++ [xs.getD i z] := by
  rw [List.take_succ_eq_append_getElem h, List.getD_eq_getElem?_getD, List.getElem?_eq_getElem h]; rfl
theorem getD_mem {α : Type} (xs : List α) (i : Nat) (z : α) (h : i < xs.length) : xs.getD i z ∈ xs := by
  rw [List.getD_eq_getElem?_getD, List.getElem?_eq_getElem h]; exact List.getElem_mem h

/-- A loop that compares two lists, place by place. -/
theorem eq_loop {L : Nat → Int → Option Bool} {x y : List Int} (hl : x.length = y.length) (hb : x.length < 4611686018427387904)
    (hs : ∀ k (i : Nat), i < x.length → L (k + 1) i = if x.getD i 0 = y.getD i 0 then L k ((i + 1 : Nat) : Int) else some false) (he : ∀ k, L (k + 1) (x.length : Nat) = some true) (d : Nat) :
    ∀ i : Nat, i + d = x.length → Ans (fun k => L k i) (decide (x.drop i = y.drop i)) := by
  induction d with
  | zero =>
    intro i hi
    obtain rfl : i = x.length := by omega
    refine Ans.succ he ?_
    rw [List.drop_of_length_le (Nat.le_refl _), List.drop_of_length_le (by omega)]
    exact Ans.of_eq fun _ => by simp
  | succ d ih =>
    intro i hi
    refine Ans.succ (fun k => hs k i (by omega)) ?_
    rw [getD_drop x i 0 (by omega), getD_drop y i 0 (by omega)]
    by_cases h : x.getD i 0 = y.getD i 0
    · refine Ans.ite_pos h ?_
      have := ih (i + 1) (by omega)
      rwa [show decide (x.getD i 0 :: List.drop (i + 1) x = y.getD i 0 :: List.drop (i + 1) y) = decide (List.drop (i + 1) x = List.drop (i + 1) y) by simp only [List.cons.injEq, h, true_and]]
    · refine Ans.ite_neg h ?_
      exact Ans.of_eq fun _ => by simp only [List.cons.injEq, h, false_and, decide_false]
/-- A loop that asks each place in turn. -/
theorem all_loop {L : Nat → Int → Option Bool} {n : Nat} {p : Nat → Bool}
    (hs : ∀ k (i : Nat), i < n → L (k + 1) i = if p i = true then L k ((i + 1 : Nat) : Int) else some false) (he : ∀ k, L (k + 1) (n : Nat) = some true) (d : Nat) :
    ∀ i : Nat, i + d = n → Ans (fun k => L k i) ((List.range' i d).all p) := by
  induction d with
  | zero =>
    intro i hi
    obtain rfl : i = n := by omega
    exact Ans.succ he (Ans.some _)
  | succ d ih =>
    intro i hi
    refine Ans.succ (fun k => hs k i (by omega)) ?_
    rw [List.range'_succ, List.all_cons]
    cases h : p i with
    | true => exact Ans.ite_pos rfl (by simpa using ih (i + 1) (by omega))
    | false => exact Ans.ite_neg (by simp) (by simpa using Ans.some _)
/-- A loop that makes a list, one element a round. -/
theorem app_loop {ρ β : Type} {L : Nat → List β → Int → Option ρ} {n : Nat} {f : Nat → β} {fin : List β → ρ} {B : Nat} (hn : n ≤ B)
    (hs : ∀ k acc (i : Nat), i < n → acc.length = i → L (k + 1) acc i = L k (acc ++ [f i]) ((i + 1 : Nat) : Int)) (he : ∀ k acc, L (k + 1) acc (n : Nat) = some (fin acc)) (d : Nat) :
    ∀ (i : Nat) acc, i + d = n → acc.length = i → Ans (fun k => L k acc i) (fin (acc ++ (List.range' i d).map f)) := by
  induction d with
  | zero =>
    intro i acc hi ha
    obtain rfl : i = n := by omega
    rw [List.range'_zero, List.map_nil, List.append_nil]
    exact Ans.succ (fun k => he k acc) (Ans.some _)
  | succ d ih =>
    intro i acc hi ha
    refine Ans.succ (fun k => hs k acc i (by omega) ha) ?_
    have := ih (i + 1) (acc ++ [f i]) (by omega) (by simp [ha])
    rwa [List.append_assoc, List.singleton_append, ← List.map_cons, ← List.range'_succ] at this
/-- The same, where a round takes more than one step, and the end too. -/
theorem app_run {ρ β : Type} {L : Nat → List β → Int → Option ρ} {n : Nat} {f : Nat → β} {r : ρ}
    (hs : ∀ acc (i : Nat), i < n → acc.length = i → Ans (fun k => L k (acc ++ [f i]) ((i + 1 : Nat) : Int)) r → Ans (fun k => L k acc i) r) (d : Nat) :
    ∀ (i : Nat) acc, i + d = n → acc.length = i → Ans (fun k => L k (acc ++ (List.range' i d).map f) (n : Nat)) r → Ans (fun k => L k acc i) r := by
  induction d with
  | zero =>
    intro i acc hi ha h
    obtain rfl : i = n := by omega
    rwa [List.range'_zero, List.map_nil, List.append_nil] at h
  | succ d ih =>
    intro i acc hi ha h
    refine hs acc i (by omega) ha (ih (i + 1) (acc ++ [f i]) (by omega) (by simp [ha]) ?_)
    rwa [List.append_assoc, List.singleton_append, ← List.map_cons, ← List.range'_succ]
theorem map_range_getD {α β : Type} (xs : List α) (z : α) (g : α → β) : (List.range' 0 xs.length).map (fun i => g (xs.getD i z)) = xs.map g := by
  apply List.ext_getElem?
  intro i
  rw [List.getElem?_map, List.getElem?_map]
  rcases Nat.lt_or_ge i xs.length with h | h
  · rw [List.getElem?_eq_getElem (by simpa using h), List.getElem?_eq_getElem h]
    simp [List.getD_eq_getElem?_getD, List.getElem?_eq_getElem h]
  · rw [List.getElem?_eq_none (by simpa using h), List.getElem?_eq_none h]; rfl
end Go.Proofs.YtjccbolnjnefiaaDoor.Pl
