/- DepsFits, in plain words: what a root uses. By this session. -/
import Derived.Test.YtkmeghmhgbbmhaaDoorDepsFitsA
namespace Go.Proofs.YtkmeghmhgbbmhaaDoor.Pure
open Go Go.Proofs.YtkmeghmhgbbmhaaDoor.Cm
open Classical
set_option linter.unusedVariables false
set_option maxRecDepth 100000
/-! ### maps -/
theorem kq (a b : ByteArray) : (keyEq (.str : Ty) a b = true) ↔ a = b := keyS_true a b
abbrev keys {V : Type} (m : List (ByteArray × V)) : SL := m.map Prod.fst
theorem mfind_in {V : Type} {s : ByteArray} : ∀ {m : List (ByteArray × V)}, (mfind (keyEq (.str : Ty)) s m).isSome = true ↔ s ∈ keys m
  | [] => by simp [mfind, keys]
  | p :: m => by
    unfold mfind
    by_cases h : s = p.1
    · rw [if_pos ((kq _ _).2 h)]
      simp [keys, h]
    · rw [if_neg (fun e => h ((kq _ _).1 e)), mfind_in]
      simp [keys, h]
theorem mfind_out {V : Type} {s : ByteArray} {m : List (ByteArray × V)} (h : s ∉ keys m) : mfind (keyEq (.str : Ty)) s m = none := by
  cases e : mfind (keyEq (.str : Ty)) s m with
  | none => rfl
  | some v => exact absurd (mfind_in.1 (by rw [e]; rfl)) h
theorem mfind_mset {V : Type} (k : ByteArray) (v : V) (s : ByteArray) : ∀ m : List (ByteArray × V), mfind (keyEq (.str : Ty)) s (mset (keyEq (.str : Ty)) k v m) = if s = k then some v else mfind (keyEq (.str : Ty)) s m
  | [] => by
    unfold mset mfind
    by_cases h : s = k
    · rw [if_pos ((kq _ _).2 h), if_pos h]
    · rw [if_neg (fun e => h ((kq _ _).1 e)), if_neg h]; rfl
  | p :: m => by
    unfold mset
    by_cases hk : k = p.1
    · rw [if_pos ((kq _ _).2 hk)]
      unfold mfind
      by_cases h : s = k
      · rw [if_pos ((kq _ _).2 h), if_pos h]
      · rw [if_neg (fun e => h ((kq _ _).1 e)), if_neg h, if_neg (fun e => h (((kq _ _).1 e).trans hk.symm))]
    · rw [if_neg (fun e => hk ((kq _ _).1 e))]
      unfold mfind
      by_cases h : s = p.1
      · rw [if_pos ((kq _ _).2 h), if_pos ((kq _ _).2 h), if_neg (fun e => hk (e.symm.trans h))]
      · rw [if_neg (fun e => h ((kq _ _).1 e)), if_neg (fun e => h ((kq _ _).1 e)), mfind_mset k v s m]
theorem mset_new {V : Type} {k : ByteArray} {v : V} : ∀ {m : List (ByteArray × V)}, k ∉ keys m → mset (keyEq (.str : Ty)) k v m = m ++ [(k, v)]
  | [], _ => rfl
  | p :: m, h => by
    simp only [keys, List.map_cons, List.mem_cons, not_or] at h
    unfold mset
    rw [if_neg (fun e => h.1 ((kq _ _).1 e)), mset_new h.2]
    rfl
theorem cnt_lt {p q : ByteArray → Bool} (h : ∀ x, q x = true → p x = true) {x : ByteArray} (hp : p x = true) (hq : q x = false) : ∀ {l : SL}, x ∈ l → (l.filter q).length < (l.filter p).length := by
  have le : ∀ l : SL, (l.filter q).length ≤ (l.filter p).length := by
    intro l
    induction l with
    | nil => exact Nat.le_refl _
    | cons a l ih =>
      rw [List.filter_cons, List.filter_cons]
      cases hqa : q a with
      | true => rw [h a hqa]; simpa using ih
      | false =>
        cases p a with
        | true => simp only [Bool.false_eq_true, if_false, if_true, List.length_cons]; omega
        | false => simpa using ih
  intro l hx
  induction l with
  | nil => cases hx
  | cons a l ih =>
    rw [List.filter_cons, List.filter_cons]
    rcases List.mem_cons.1 hx with rfl | hx
    · rw [hq, hp]
      have := le l
      simp only [Bool.false_eq_true, if_false, if_true, List.length_cons]
      omega
    · have := ih hx
      cases hqa : q a with
      | true => rw [h a hqa]; simpa using this
      | false =>
        cases p a with
        | true => simp only [Bool.false_eq_true, if_false, if_true, List.length_cons]; omega
        | false => simpa using this
theorem nodup_len : ∀ {l m : SL}, l.Nodup → (∀ x ∈ l, x ∈ m) → l.length ≤ m.length
  | [], m, _, _ => Nat.zero_le _
  | x :: l, m, h, hs => by
    rw [List.nodup_cons] at h
    obtain ⟨a, b, rfl⟩ := List.append_of_mem (hs x (.head _))
    have : l.length ≤ (a ++ b).length := nodup_len h.2 (fun y hy => by
      have := hs y (.tail _ hy)
      rw [List.mem_append, List.mem_cons] at this
      rw [List.mem_append]
      rcases this with h1 | rfl | h1
      · exact .inl h1
      · exact absurd hy h.1
      · exact .inr h1)
    simp only [List.length_append, List.length_cons] at this ⊢
    omega
theorem insS_perm (x : ByteArray) : ∀ l, (insS x l).Perm (x :: l)
  | [] => .refl _
  | y :: r => by
    unfold insS
    split
    · exact ((insS_perm x r).cons y).trans (.swap x y r)
    · exact .refl _
theorem sortS_perm : ∀ l : SL, (sortS l).Perm l
  | [] => .refl _
  | x :: l => by rw [sortS_cons]; exact (insS_perm x _).trans ((sortS_perm l).cons x)
/-! ### what a root uses -/
structure RInv (m : GM) (root : ByteArray) (met : List (ByteArray × Int)) (todo : SL) : Prop where
  nd : (keys met).Nodup
  val : ∀ s ∈ keys met, mfind (keyEq (.str : Ty)) s met = some 1
  k1 : ∀ s ∈ todo, s ∈ keys m
  k2 : ∀ s ∈ keys met, s ∈ keys m
  rt : root ∈ todo ∨ root ∈ keys met
  closed : ∀ s ∈ keys met, ∀ u ∈ mget m s, u ∈ keys met ∨ u ∈ todo
  par : ∀ s, s ∈ todo ∨ s ∈ keys met → s = root ∨ ∃ p ∈ keys met, s ∈ mget m p
noncomputable def rem (m : GM) (met : List (ByteArray × Int)) : Nat := ((keys m).filter fun s => decide (s ∉ keys met)).length
theorem cut1 (s : ByteArray) (rest : SL) : cutL (s :: rest) 1 ((s :: rest).length : Int) = rest := by simp [cutL]
theorem reach_loop {n : Nat} {m : GM} {root : ByteArray} {M : Nat} (hM : ∀ s ∈ keys m, (mget m s).length ≤ M) (hMs : M < 1000) (hcl : ∀ s ∈ keys m, ∀ u ∈ mget m s, u ∈ keys m) :
    ∀ (f k : Nat) (met : List (ByteArray × Int)) (todo : SL), RInv m root met todo → rem m met * (M + 1) + todo.length ≤ f → f < k → f < 1000000 → ∃ met', RInv m root met' [] ∧ deps_Graph_reach_l3 n k (((), (), (), ()), (((), ()), m, met, todo, ())) = some (.inl (((), ()), (((), ()), m, met', ()))) := by
  intro f
  induction f with
  | zero =>
    intro k met todo hI hf hk _
    obtain ⟨k, rfl⟩ : ∃ q, k = q + 1 := ⟨k - 1, by omega⟩
    have h0 : todo = [] := List.eq_nil_of_length_eq_zero (by omega)
    subst h0
    exact ⟨met, hI, by rw [deps_Graph_reach_l3, if_neg (by simp)]⟩
  | succ f ih =>
    intro k met todo hI hf hk hlt
    obtain ⟨k, rfl⟩ : ∃ q, k = q + 1 := ⟨k - 1, by omega⟩
    cases todo with
    | nil => exact ⟨met, hI, by rw [deps_Graph_reach_l3, if_neg (by simp)]⟩
    | cons s rest =>
      rw [List.length_cons] at hf
      have hsK := hI.k1 s (.head _)
      have e0 : deps_Graph_reach_l3 n (k + 1) (((), (), (), ()), (((), ()), m, met, s :: rest, ())) =
          (let v5 : Int := (mfind (keyEq (.str : Ty)) s met).getD 0
           if decide (v5 > 0) then deps_Graph_reach_l3 n k (((), (), (), ()), (((), ()), m, met, rest, ()))
           else if (rest.length + (mget m s).length) * 16 ≤ 140737488355328 then deps_Graph_reach_l3 n k (((), (), (), ()), (((), ()), m, mset (keyEq (.str : Ty)) s 1 met, rest ++ mget m s, ())) else none) := by
        rw [deps_Graph_reach_l3, if_pos (by simp), if_pos (by simp), if_pos (by simp; omega)]
        have hs : (mfind (keyEq (.str : Ty)) s m).isSome = true := mfind_in.2 hsK
        show (if (!(mfind (keyEq (.str : Ty)) s m).isSome) = true then _ else _) = _
        rw [hs, if_neg (by simp), cut1]
        rfl
      rw [e0]
      by_cases hm : s ∈ keys met
      · have hv := hI.val s hm
        simp only [hv, Option.getD_some]
        rw [if_pos (by simp)]
        refine ih k met rest ⟨hI.nd, hI.val, fun x hx => hI.k1 x (.tail _ hx), hI.k2, ?_, fun x hx u hu => ?_, fun x hx => hI.par x (hx.imp (.tail _) id)⟩ (by omega) (by omega) (by omega)
        · rcases hI.rt with h | h
          · rcases List.mem_cons.1 h with rfl | h
            · exact .inr hm
            · exact .inl h
          · exact .inr h
        · rcases hI.closed x hx u hu with h | h
          · exact .inl h
          · rcases List.mem_cons.1 h with rfl | h
            · exact .inl hm
            · exact .inr h
      · simp only [mfind_out hm, Option.getD_none]
        rw [if_neg (by simp)]
        have hml := hM s hsK
        rw [if_pos (by omega)]
        have hks : keys (mset (keyEq (.str : Ty)) s (1 : Int) met) = keys met ++ [s] := by rw [mset_new hm]; simp [keys]
        have hrem : rem m (mset (keyEq (.str : Ty)) s (1 : Int) met) < rem m met := by
          unfold rem
          rw [hks]
          refine cnt_lt (x := s) (fun x hx => ?_) (by simpa using hm) (by simp) hsK
          simp only [decide_eq_true_eq, List.mem_append, not_or] at hx ⊢
          exact hx.1
        refine ih k _ (rest ++ mget m s) ⟨?_, ?_, ?_, ?_, ?_, ?_, ?_⟩ ?_ (by omega) (by omega)
        · rw [hks, List.nodup_append]
          exact ⟨hI.nd, by simp, fun a ha b hb e => by simp at hb; subst hb; subst e; exact hm ha⟩
        · intro x hx
          rw [hks] at hx
          rw [mfind_mset]
          by_cases e : x = s
          · rw [if_pos e]
          · rw [if_neg e]
            refine hI.val x ?_
            rcases List.mem_append.1 hx with h | h
            · exact h
            · simp at h; exact absurd h e
        · intro x hx
          rcases List.mem_append.1 hx with h | h
          · exact hI.k1 x (.tail _ h)
          · exact hcl s hsK x h
        · intro x hx
          rw [hks] at hx
          rcases List.mem_append.1 hx with h | h
          · exact hI.k2 x h
          · simp at h; subst h; exact hsK
        · rw [hks]
          rcases hI.rt with h | h
          · rcases List.mem_cons.1 h with rfl | h
            · exact .inr (by simp)
            · exact .inl (List.mem_append.2 (.inl h))
          · exact .inr (List.mem_append.2 (.inl h))
        · intro x hx u hu
          rw [hks] at hx ⊢
          rcases List.mem_append.1 hx with h | h
          · rcases hI.closed x h u hu with h | h
            · exact .inl (List.mem_append.2 (.inl h))
            · rcases List.mem_cons.1 h with rfl | h
              · exact .inl (by simp)
              · exact .inr (List.mem_append.2 (.inl h))
          · simp at h; subst h; exact .inr (List.mem_append.2 (.inr hu))
        · intro x hx
          rw [hks] at hx
          have : (x ∈ s :: rest ∨ x ∈ keys met) ∨ x ∈ mget m s := by
            rcases hx with h | h
            · rcases List.mem_append.1 h with h | h
              · exact .inl (.inl (.tail _ h))
              · exact .inr h
            · rcases List.mem_append.1 h with h | h
              · exact .inl (.inr h)
              · simp at h; subst h; exact .inl (.inl (.head _))
          rcases this with h | h
          · rcases hI.par x h with h | ⟨p, hp, hx⟩
            · exact .inl h
            · exact .inr ⟨p, by rw [hks]; exact List.mem_append.2 (.inl hp), hx⟩
          · exact .inr ⟨s, by rw [hks]; simp, h⟩
        · rw [List.length_append]
          have h1 : (rem m (mset (keyEq (.str : Ty)) s (1 : Int) met) + 1) * (M + 1) ≤ rem m met * (M + 1) := Nat.mul_le_mul_right _ hrem
          rw [Nat.add_mul, Nat.one_mul] at h1
          omega
end Go.Proofs.YtkmeghmhgbbmhaaDoor.Pure
