/- What a root uses, in plain words; it hangs on what is used alone. By this session. -/
import Derived.Test.YthllmcijlhlimaaGreatDoorCodeLoadsM
namespace Go.Proofs.YthllmcijlhlimaaGreatDoor.Pure
open Go Go.Proofs.YthllmcijlhlimaaGreatDoor.Cm
open Classical
set_option linter.unusedVariables false
set_option linter.unusedSimpArgs false
set_option maxRecDepth 100000
abbrev ObjT := ByteArray × List Int × List Int × Int × List CellT × List InstT × List InstrT
abbrev MO := List (ByteArray × ObjT)
abbrev dO : ObjT := ((⟨#[]⟩ : ByteArray), ([], ([], (0, ([], ([], []))))))
abbrev mf {V : Type} (s : ByteArray) (m : List (ByteArray × V)) : Option V := mfind (keyEq (.str : Ty)) s m
abbrev ins (m : MO) (s : ByteArray) : List InstT := ((mf s m).getD dO).2.2.2.2.2.1
def objs (l : List ObjT) : MO := l.map fun o => (o.1, o)
theorem objs_keys (l : List ObjT) : keys (objs l) = l.map (·.1) := by simp [keys, objs]
theorem named_at {n : Nat} (l : List ObjT) (hn : l.length + 5 < n) (hl : l.length < 1000) :
    ((keys (objs l)).Nodup ∧ lay_named n ((l, ()), ()) = some (.inl (((((), ()), (ErrV.nil, ()), ()), ()), (objs l, ())))) ∨ (¬ (keys (objs l)).Nodup ∧ ∃ e, errNil e = false ∧ lay_named n ((l, ()), ()) = some (.inr ((((((), ()), (e, ()), ()), ()), ())))) := by
  obtain ⟨n, rfl⟩ : ∃ m, n = m + 1 := ⟨n - 1, by omega⟩
  have a := for_inv (F := lay_named_l3 n) (len := l.length) (st := fun i => (((), l, (l.length : Int), (i : Int), ()), (objs (l.take i), ()))) (fun i => (keys (objs (l.take i))).Nodup) (fun r => (r = some (.inl (((), ()), (objs l, ()))) ∧ (keys (objs l)).Nodup) ∨ (¬ (keys (objs l)).Nodup ∧ ∃ e, errNil e = false ∧ r = some (.inr (.inl (((), e, ()), ()))))) (by simp [objs, keys]) (fun i k hi hI => by
    simp only [lay_named_l3]
    rw [if_pos (decide_eq_true (show (i : Int) < (l.length : Int) by omega)), if_pos (show 0 ≤ (i : Int) ∧ (i : Int) < (l.length : Int) from ⟨by omega, by omega⟩), rdT_nat]
    have ht : l.take (i + 1) = l.take i ++ [(l.getD i (Ty.dflt ty0) : ObjT)] := take_succ l i hi _
    by_cases hk : (l.getD i (Ty.dflt ty0)).1 ∈ keys (objs (l.take i))
    · rw [if_pos (mfind_in.2 hk)]
      refine .inr (.inr ⟨fun hnd => ?_, _, rfl, rfl⟩)
      have hnd2 := List.Nodup.sublist ((List.take_sublist (i + 1) l).map (·.1)) (by rw [objs_keys] at hnd; exact hnd)
      rw [ht, List.map_append, List.nodup_append] at hnd2
      rw [objs_keys] at hk
      exact hnd2.2.2 _ hk _ (by simp) rfl
    · rw [if_neg (fun h => hk (mfind_in.1 h))]
      refine .inl ⟨?_, ?_⟩
      · rw [ht, objs_keys, List.map_append, List.nodup_append]
        rw [objs_keys] at hI hk
        refine ⟨hI, by simp, fun a ha b hb e => ?_⟩
        simp only [List.map_cons, List.map_nil, List.mem_singleton] at hb
        subst hb; subst e
        exact hk ha
      · rw [w64_up i (by omega), ht, mset_new hk]
        rw [show objs (l.take i ++ [(l.getD i (Ty.dflt ty0) : ObjT)]) = objs (l.take i) ++ [((l.getD i (Ty.dflt ty0)).1, (l.getD i (Ty.dflt ty0) : ObjT))] by simp [objs]]) (fun k hI => by
    rw [List.take_length] at hI ⊢
    refine .inl ⟨?_, hI⟩
    simp only [lay_named_l3]
    rw [if_neg (by simp)]) n (by omega)
  have e0 : ∀ r, lay_named_l3 n n (((), l, (l.length : Int), ((0 : Nat) : Int), ()), (objs (l.take 0), ())) = r → lay_named_l3 n n (((), l, (l.length : Int), 0, ()), ([], ())) = r := fun r h => h
  simp only [lay_named]
  rcases a with ⟨a, h⟩ | ⟨h, e, he, a⟩
  · rw [e0 _ a]
    exact .inl ⟨h, rfl⟩
  · rw [e0 _ a]
    exact .inr ⟨h, e, he, rfl⟩
/-- What is met, what is to do. -/
structure UInv (m : MO) (root : ByteArray) (met : List (ByteArray × Int)) (todo : SL) : Prop where
  nd : (keys met).Nodup
  val : ∀ s ∈ keys met, mf s met = some 1
  k2 : ∀ s ∈ keys met, s ∈ keys m
  rt : root ∈ todo ∨ root ∈ keys met
  closed : ∀ s ∈ keys met, ∀ i ∈ ins m s, i.2 ∈ keys met ∨ i.2 ∈ todo
theorem uses_in {met : List (ByteArray × Int)} (hv : ∀ s ∈ keys met, mf s met = some 1) (is : List InstT) (hlen : is.length < 1000) : ∀ (q i : Nat), i + q = is.length → ∃ add : SL, add.length ≤ q ∧ (∀ j, i ≤ j → j < is.length → (is.getD j (Ty.dflt ty11)).2 ∈ keys met ∨ (is.getD j (Ty.dflt ty11)).2 ∈ add) ∧
    ∀ (n : Nat) (m : MO) (todo : SL) (k : Nat), q < k → todo.length + q < 1000000 → lay_Uses_l15 n k (((), (), (), is, (is.length : Int), (i : Int), ()), (m, met, todo, ())) = some (.inl (((), (), (), ()), (m, met, todo ++ add, ()))) := by
  intro q
  induction q with
  | zero =>
    intro i hi
    refine ⟨[], Nat.le_refl _, fun j h1 h2 => by omega, fun n m todo k hk _ => ?_⟩
    obtain ⟨k, rfl⟩ : ∃ m, k = m + 1 := ⟨k - 1, by omega⟩
    simp only [lay_Uses_l15]
    rw [if_neg (by simp; omega), List.append_nil]
  | succ q ih =>
    intro i hi
    obtain ⟨add, h1, h2, h3⟩ := ih (i + 1) (by omega)
    by_cases hm : (is.getD i (Ty.dflt ty11)).2 ∈ keys met
    · refine ⟨add, by omega, fun j hj1 hj2 => ?_, fun n m todo k hk ht => ?_⟩
      · by_cases e : j = i
        · subst e; exact .inl hm
        · exact h2 j (by omega) hj2
      · obtain ⟨k, rfl⟩ : ∃ m, k = m + 1 := ⟨k - 1, by omega⟩
        have hf := hv _ hm
        simp only [lay_Uses_l15]
        rw [if_pos (decide_eq_true (show (i : Int) < (is.length : Int) by omega)), if_pos (show 0 ≤ (i : Int) ∧ (i : Int) < (is.length : Int) from ⟨by omega, by omega⟩), rdT_nat]
        have hc : ¬ (((mfind (keyEq (.str : Ty)) (is.getD i (Ty.dflt ty11)).2 met).getD 0 == 0) = true) := by
          rw [show (mfind (keyEq (.str : Ty)) (is.getD i (Ty.dflt ty11)).2 met) = some 1 from hf]
          decide
        rw [if_neg hc, w64_up i (by omega), h3 n m todo k (by omega) (by omega)]
    · refine ⟨(is.getD i (Ty.dflt ty11)).2 :: add, by simp; omega, fun j hj1 hj2 => ?_, fun n m todo k hk ht => ?_⟩
      · by_cases e : j = i
        · subst e; exact .inr (.head _)
        · exact (h2 j (by omega) hj2).imp id (.tail _)
      · obtain ⟨k, rfl⟩ : ∃ m, k = m + 1 := ⟨k - 1, by omega⟩
        have hf := mfind_out hm
        simp only [lay_Uses_l15]
        rw [if_pos (decide_eq_true (show (i : Int) < (is.length : Int) by omega)), if_pos (show 0 ≤ (i : Int) ∧ (i : Int) < (is.length : Int) from ⟨by omega, by omega⟩), rdT_nat]
        have hc : ((mfind (keyEq (.str : Ty)) (is.getD i (Ty.dflt ty11)).2 met).getD 0 == 0) = true := by
          rw [show (mfind (keyEq (.str : Ty)) (is.getD i (Ty.dflt ty11)).2 met) = none from hf]
          rfl
        rw [if_pos hc, if_pos (by simp only [List.length_cons, List.length_nil]; omega), w64_up i (by omega), h3 n m _ k (by omega) (by simp; omega), List.append_assoc]
        rfl
noncomputable def rem (m : MO) (met : List (ByteArray × Int)) : Nat := ((keys m).filter fun s => decide (s ∉ keys met)).length
theorem cnt_lt {p q : ByteArray → Bool} (h : ∀ x, q x = true → p x = true) {x : ByteArray} (hp : p x = true) (hq : q x = false) : ∀ {l : SL}, x ∈ l → (l.filter q).length < (l.filter p).length := by
  have le : ∀ l : SL, (l.filter q).length ≤ (l.filter p).length := by
    intro l
    induction l with
    | nil => exact Nat.le_refl _
    | cons a l ih =>
      rw [List.filter_cons, List.filter_cons]
      cases hqa : q a with
      | true => rw [h a hqa]; simpa using ih
      | false =>
        cases p a with
        | true => simp only [Bool.false_eq_true, if_false, if_true, List.length_cons]; omega
        | false => simpa using ih
  intro l hx
  induction l with
  | nil => cases hx
  | cons a l ih =>
    rw [List.filter_cons, List.filter_cons]
    rcases List.mem_cons.1 hx with rfl | hx
    · rw [hq, hp]
      have := le l
      simp only [Bool.false_eq_true, if_false, if_true, List.length_cons]
      omega
    · have := ih hx
      cases hqa : q a with
      | true => rw [h a hqa]; simpa using this
      | false =>
        cases p a with
        | true => simp only [Bool.false_eq_true, if_false, if_true, List.length_cons]; omega
        | false => simpa using this
theorem cut1 (s : ByteArray) (rest : SL) : cutL (s :: rest) 1 ((s :: rest).length : Int) = rest := by simp [cutL]
theorem getD_of_mem {α : Type} {l : List α} {x : α} (h : x ∈ l) (d : α) : ∃ j, j < l.length ∧ l.getD j d = x := by
  obtain ⟨j, hj, e⟩ := List.getElem_of_mem h
  exact ⟨j, hj, by rw [List.getD_eq_getElem?_getD, List.getElem?_eq_getElem hj]; exact e⟩
theorem uses_loop {m0 : MO} {root : ByteArray} (hM : ∀ s, (ins m0 s).length ≤ 30) : ∀ (f : Nat) (met : List (ByteArray × Int)) (todo : SL), UInv m0 root met todo → rem m0 met * 31 + todo.length ≤ f → f < 100000 →
    (∃ e, errNil e = false ∧ ∀ n k, 60 < n → f < k → lay_Uses_l6 n k (((), (), (), ()), (m0, met, todo, ())) = some (.inr (.inl (((), e, ()), ())))) ∨
    (∃ met', UInv m0 root met' [] ∧ (∀ s ∈ keys met, s ∈ keys met') ∧ ∀ (n k : Nat) (m : MO), 60 < n → f < k → (∀ s ∈ keys met', mf s m = mf s m0) → lay_Uses_l6 n k (((), (), (), ()), (m, met, todo, ())) = some (.inl (((), ()), (met', ())))) := by
  have none_left : ∀ (f : Nat) (met : List (ByteArray × Int)), UInv m0 root met [] → (∃ met', UInv m0 root met' [] ∧ (∀ s ∈ keys met, s ∈ keys met') ∧ ∀ (n k : Nat) (m : MO), 60 < n → f < k → (∀ s ∈ keys met', mf s m = mf s m0) → lay_Uses_l6 n k (((), (), (), ()), (m, met, [], ())) = some (.inl (((), ()), (met', ())))) := fun f met hI => by
    refine ⟨met, hI, fun s h => h, fun n k m _ hk _ => ?_⟩
    obtain ⟨k, rfl⟩ : ∃ q, k = q + 1 := ⟨k - 1, by omega⟩
    simp only [lay_Uses_l6]
    rw [if_neg (by simp)]
  intro f
  induction f with
  | zero =>
    intro met todo hI hf _
    have h0 : todo = [] := List.eq_nil_of_length_eq_zero (by omega)
    subst h0
    exact .inr (none_left 0 met hI)
  | succ f ih =>
    intro met todo hI hf hlt
    cases todo with
    | nil => exact .inr (none_left (f + 1) met hI)
    | cons s rest =>
      rw [List.length_cons] at hf
      have head : ∀ (n k : Nat) (m : MO), lay_Uses_l6 n (k + 1) (((), (), (), ()), (m, met, s :: rest, ())) =
          (let v4 : Int := (mfind (keyEq (.str : Ty)) s met).getD 0
          if decide (v4 > 0) then
            lay_Uses_l6 n k (((), (), (), ()), (m, met, rest, ()))
          else
            let v5 : ObjT := (mfind (keyEq (.str : Ty)) s m).getD dO
            if !((mfind (keyEq (.str : Ty)) s m).isSome) then
              some (.inr (.inl (((), ErrV.sent 116, ()), ())))
            else
              match lay_Uses_l15 n n (((), (), (), v5.2.2.2.2.2.1, (v5.2.2.2.2.2.1.length : Int), 0, ()), (m, mset (keyEq (.str : Ty)) s 1 met, rest, ())) with
              | some (.inl ((_, _, _, _), (m6, m7, l8, _))) => (
                lay_Uses_l6 n k (((), (), (), ()), (m6, m7, l8, ())))
              | some (.inr (_)) => none
              | none => none) := fun n k m => by
        rw [lay_Uses_l6, if_pos (by simp), if_pos (by simp), if_pos (by simp; omega)]
        rw [cut1]
        rfl
      by_cases hm : s ∈ keys met
      · have hv := hI.val s hm
        have hstep : ∀ (n k : Nat) (m : MO), lay_Uses_l6 n (k + 1) (((), (), (), ()), (m, met, s :: rest, ())) = lay_Uses_l6 n k (((), (), (), ()), (m, met, rest, ())) := fun n k m => by
          rw [head]
          simp only [show mfind (keyEq (.str : Ty)) s met = some 1 from hv, Option.getD_some]
          rw [if_pos (by simp)]
        rcases ih met rest ⟨hI.nd, hI.val, hI.k2, (by
          rcases hI.rt with h | h
          · rcases List.mem_cons.1 h with rfl | h
            · exact .inr hm
            · exact .inl h
          · exact .inr h), fun x hx u hu => (by
          rcases hI.closed x hx u hu with h | h
          · exact .inl h
          · rcases List.mem_cons.1 h with h | h
            · rw [h]; exact .inl hm
            · exact .inr h)⟩ (by omega) (by omega) with ⟨e, he, h⟩ | ⟨met', h1, h2, h3⟩
        · refine .inl ⟨e, he, fun n k hn hk => ?_⟩
          obtain ⟨k, rfl⟩ : ∃ q, k = q + 1 := ⟨k - 1, by omega⟩
          rw [hstep]
          exact h n k hn (by omega)
        · refine .inr ⟨met', h1, h2, fun n k m hn hk hag => ?_⟩
          obtain ⟨k, rfl⟩ : ∃ q, k = q + 1 := ⟨k - 1, by omega⟩
          rw [hstep]
          exact h3 n k m hn (by omega) hag
      · have hm0 : (mfind (keyEq (.str : Ty)) s met).getD 0 = 0 := by rw [mfind_out hm]; rfl
        by_cases hk0 : s ∈ keys m0
        · have hs0 : (mfind (keyEq (.str : Ty)) s m0).isSome = true := mfind_in.2 hk0
          have hks : keys (mset (keyEq (.str : Ty)) s (1 : Int) met) = keys met ++ [s] := by rw [mset_new hm]; simp [keys]
          have hval : ∀ x ∈ keys (mset (keyEq (.str : Ty)) s (1 : Int) met), mf x (mset (keyEq (.str : Ty)) s (1 : Int) met) = some 1 := by
            intro x hx
            rw [hks] at hx
            show mfind _ x _ = _
            rw [mfind_mset]
            by_cases e : x = s
            · rw [if_pos e]
            · rw [if_neg e]
              refine hI.val x ?_
              rcases List.mem_append.1 hx with h | h
              · exact h
              · exact absurd (List.mem_singleton.1 h) e
          have hfew := hM s
          obtain ⟨add, a1, a2, a3⟩ := uses_in hval (ins m0 s) (by omega) (ins m0 s).length 0 (by omega)
          have hrem : rem m0 (mset (keyEq (.str : Ty)) s (1 : Int) met) < rem m0 met := by
            unfold rem
            rw [hks]
            refine cnt_lt (x := s) (fun x hx => ?_) (by simpa using hm) (by simp) hk0
            simp only [decide_eq_true_eq, List.mem_append, not_or] at hx ⊢
            exact hx.1
          have hI2 : UInv m0 root (mset (keyEq (.str : Ty)) s (1 : Int) met) (rest ++ add) := by
            refine ⟨?_, hval, fun x hx => ?_, ?_, fun x hx u hu => ?_⟩
            · rw [hks, List.nodup_append]
              exact ⟨hI.nd, by simp, fun a ha b hb e => by simp at hb; subst hb; subst e; exact hm ha⟩
            · rw [hks] at hx
              rcases List.mem_append.1 hx with h | h
              · exact hI.k2 x h
              · rw [List.mem_singleton.1 h]; exact hk0
            · rw [hks]
              rcases hI.rt with h | h
              · rcases List.mem_cons.1 h with h | h
                · exact .inr (by simp [h])
                · exact .inl (List.mem_append_left _ h)
              · exact .inr (List.mem_append_left _ h)
            · rw [hks] at hx
              rcases List.mem_append.1 hx with h | h
              · rcases hI.closed x h u hu with h2 | h2
                · rw [hks]; exact .inl (List.mem_append_left _ h2)
                · rcases List.mem_cons.1 h2 with h2 | h2
                  · rw [hks]; exact .inl (by simp [h2])
                  · exact .inr (List.mem_append_left _ h2)
              · rw [List.mem_singleton.1 h] at hu
                obtain ⟨j, hj, e⟩ := getD_of_mem hu (Ty.dflt ty11)
                have := a2 j (by omega) hj
                rw [e] at this
                exact this.imp id (List.mem_append_right _)
          have hstep : ∀ (n k : Nat) (m : MO), 60 < n → mf s m = mf s m0 → lay_Uses_l6 n (k + 1) (((), (), (), ()), (m, met, s :: rest, ())) = lay_Uses_l6 n k (((), (), (), ()), (m, mset (keyEq (.str : Ty)) s 1 met, rest ++ add, ())) := fun n k m hn hm1 => by
            have h := a3 n m rest n (by omega) (by omega)
            rw [head]
            simp only [hm0]
            rw [if_neg (by simp)]
            rw [show mfind (keyEq (.str : Ty)) s m = mfind (keyEq (.str : Ty)) s m0 from hm1]
            rw [hs0, if_neg (by simp)]
            rw [show lay_Uses_l15 n n (((), (), (), ((mfind (keyEq (.str : Ty)) s m0).getD dO).2.2.2.2.2.1, (((mfind (keyEq (.str : Ty)) s m0).getD dO).2.2.2.2.2.1.length : Int), 0, ()), (m, mset (keyEq (.str : Ty)) s 1 met, rest, ())) = _ from h]
          rcases ih _ (rest ++ add) hI2 (by simp only [List.length_append]; omega) (by omega) with ⟨e, he, h⟩ | ⟨met', h1, h2, h3⟩
          · refine .inl ⟨e, he, fun n k hn hk => ?_⟩
            obtain ⟨k, rfl⟩ : ∃ q, k = q + 1 := ⟨k - 1, by omega⟩
            rw [hstep n k m0 hn rfl]
            exact h n k hn (by omega)
          · have hsm : s ∈ keys met' := h2 s (by rw [hks]; simp)
            refine .inr ⟨met', h1, fun x hx => h2 x (by rw [hks]; exact List.mem_append_left _ hx), fun n k m hn hk hag => ?_⟩
            obtain ⟨k, rfl⟩ : ∃ q, k = q + 1 := ⟨k - 1, by omega⟩
            rw [hstep n k m hn (hag s hsm)]
            exact h3 n k m hn (by omega) hag
        · refine .inl ⟨.sent 116, rfl, fun n k hn hk => ?_⟩
          obtain ⟨k, rfl⟩ : ∃ q, k = q + 1 := ⟨k - 1, by omega⟩
          rw [head]
          simp only [hm0]
          rw [if_neg (by simp), mfind_out hk0]
          rfl
/-- The names that a root uses. -/
structure Names (l : List ObjT) (root : ByteArray) (N : SL) : Prop where
  up : Rising N
  rt : root ∈ N
  k : ∀ s ∈ N, s ∈ keys (objs l)
  cl : ∀ s ∈ N, ∀ i ∈ ins (objs l) s, i.2 ∈ N
  nd : (keys (objs l)).Nodup
  len : N.length ≤ l.length
theorem mf_mem {s : ByteArray} {o : ObjT} : ∀ {l : List ObjT}, mf s (objs l) = some o → o ∈ l ∧ o.1 = s
  | [], h => by cases h
  | a :: l, h => by
    have h : (if keyEq (.str : Ty) s a.1 then some a else mfind (keyEq (.str : Ty)) s (objs l)) = some o := h
    by_cases e : s = a.1
    · rw [if_pos ((kq _ _).2 e)] at h
      cases h
      exact ⟨.head _, e.symm⟩
    · rw [if_neg (fun x => e ((kq _ _).1 x))] at h
      have := mf_mem h
      exact ⟨.tail _ this.1, this.2⟩
theorem mf_of {l : List ObjT} (h : (keys (objs l)).Nodup) {o : ObjT} (ho : o ∈ l) : mf o.1 (objs l) = some o := by
  induction l with
  | nil => cases ho
  | cons a l ih =>
    have h : (a.1 :: keys (objs l)).Nodup := h
    rw [List.nodup_cons] at h
    show (if keyEq (.str : Ty) o.1 a.1 then some a else mfind (keyEq (.str : Ty)) o.1 (objs l)) = some o
    rcases List.mem_cons.1 ho with rfl | ho
    · rw [if_pos ((kq _ _).2 rfl)]
    · rw [if_neg (fun e => h.1 (by rw [← (kq _ _).1 e, objs_keys]; exact List.mem_map.2 ⟨o, ho, rfl⟩))]
      exact ih h.2 ho
/-- Objects that are neither too many nor too great. -/
structure Few (l : List ObjT) : Prop where
  len : l.length ≤ 8
  sz : ∀ o ∈ l, o.1.size ≤ 300
  is : ∀ o ∈ l, o.2.2.2.2.2.1.length ≤ 30
theorem Few.ins {l : List ObjT} (h : Few l) (s : ByteArray) : (ins (objs l) s).length ≤ 30 := by
  cases e : mf s (objs l) with
  | none => simp [Pure.ins, e]
  | some o => simpa [Pure.ins, e] using h.is o (mf_mem e).1
theorem wf_of {V : Type} {m : List (ByteArray × V)} (h : ∀ s ∈ keys m, s.size ≤ 1099511627776) : wfKeysS m = true := by
  unfold wfKeysS
  rw [List.all_eq_true]
  exact fun p hp => decide_eq_true (h p.1 (List.mem_map.2 ⟨p, hp, rfl⟩))
theorem Uses_at {l : List ObjT} (hF : Few l) (root : ByteArray) :
    (∀ n, 1000 < n → ∃ e, errNil e = false ∧ lay_Uses n ((root, l, ()), ()) = some (((((), ()), (e, ()), ()), ()), ([], ()))) ∨
    (∃ N, Names l root N ∧ ∀ n, 1000 < n → ∀ l2 : List ObjT, l2.length ≤ 8 → (keys (objs l2)).Nodup → (∀ s ∈ N, mf s (objs l2) = mf s (objs l)) → lay_Uses n ((root, l2, ()), ()) = some (((((), ()), (ErrV.nil, ()), ()), ()), (N, ()))) := by
  have hlen := hF.len
  have hnm : ∀ n, 100 < n → ∀ l2 : List ObjT, l2.length ≤ 8 → (keys (objs l2)).Nodup → lay_named n ((l2, ()), ()) = some (.inl (((((), ()), (ErrV.nil, ()), ()), ()), (objs l2, ()))) := fun n hn l2 h1 h2 => by
    rcases named_at (n := n) l2 (by omega) (by omega) with ⟨-, h⟩ | ⟨h, -⟩
    · exact h
    · exact absurd h2 h
  by_cases hnd : (keys (objs l)).Nodup
  · have hrem : rem (objs l) [] ≤ 8 := Nat.le_trans (List.length_filter_le _ _) (by simp [keys, objs]; omega)
    rcases uses_loop (m0 := objs l) (root := root) hF.ins 300 [] [root] ⟨by simp [keys], fun s hs => by simp [keys] at hs, fun s hs => by simp [keys] at hs, .inl (.head _), fun s hs => by simp [keys] at hs⟩ (by simp only [List.length_singleton]; omega) (by omega) with ⟨e, he, h⟩ | ⟨met, hI, -, h⟩
    · refine .inl (fun n hn => ⟨e, he, ?_⟩)
      obtain ⟨n, rfl⟩ : ∃ q, n = q + 1 := ⟨n - 1, by omega⟩
      simp only [lay_Uses, hnm n (by omega) l hlen hnd]
      rw [if_neg (by decide), h n n (by omega) (by omega)]
    · have hp := sortS_perm (keys met)
      have hml : met.length ≤ 8 := by
        have := nodup_len hI.nd hI.k2
        simp only [keys, objs, List.length_map] at this
        omega
      refine .inr ⟨sortS (keys met), ⟨sortS_rising hI.nd, ?_, fun s hs => hI.k2 s (hp.mem_iff.1 hs), fun s hs i hi => ?_, hnd, ?_⟩, fun n hn l2 hl2 hnd2 hag => ?_⟩
      · rcases hI.rt with h | h
        · cases h
        · exact hp.mem_iff.2 h
      · rcases hI.closed s (hp.mem_iff.1 hs) i hi with h | h
        · exact hp.mem_iff.2 h
        · cases h
      · rw [hp.length_eq]
        have := nodup_len hI.nd hI.k2
        simpa [keys, objs] using this
      · obtain ⟨n, rfl⟩ : ∃ q, n = q + 1 := ⟨n - 1, by omega⟩
        have hu : usSem (((), (), ()), (met, [], ())) = some (.inl (((), ErrV.nil, ()), (sortS (keys met), ()))) := by
          unfold usSem
          rw [if_pos (show wfKeysS (V := Int) met = true from wf_of (fun s hs => by
            obtain ⟨p, hp1, hp2⟩ := List.mem_map.1 (hI.k2 s hs)
            obtain ⟨o, ho, rfl⟩ := List.mem_map.1 hp1
            have := hF.sz o ho
            rw [← hp2]
            show o.1.size ≤ _
            omega)), if_pos (show List.length met ≤ 1099511627776 by omega)]
        simp only [lay_Uses, hnm n (by omega) l2 hl2 hnd2]
        rw [if_neg (by decide), h n n (objs l2) (by omega) (by omega) (fun s hs => hag s (hp.mem_iff.2 hs))]
        simp only []
        rw [hu]
  · refine .inl (fun n hn => ?_)
    obtain ⟨n, rfl⟩ : ∃ q, n = q + 1 := ⟨n - 1, by omega⟩
    rcases named_at (n := n) l (by omega) (by omega) with ⟨h, -⟩ | ⟨-, e, he, h⟩
    · exact absurd h hnd
    · refine ⟨e, he, ?_⟩
      simp only [lay_Uses, h]
      rw [he, if_pos (by decide)]
end Go.Proofs.YthllmcijlhlimaaGreatDoor.Pure
