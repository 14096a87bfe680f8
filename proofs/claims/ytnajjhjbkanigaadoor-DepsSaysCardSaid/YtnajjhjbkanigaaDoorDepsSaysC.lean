/- DepsTurned, in plain words: nodes that are light; the graph of nodes. By this session. -/
import Derived.Test.YtnajjhjbkanigaaDoorDepsSaysB
namespace Go.Proofs.YtnajjhjbkanigaaDoor.Pure
open Go Go.Proofs.YtnajjhjbkanigaaDoor.Cm
open Classical
set_option linter.unusedVariables false
set_option linter.unusedSimpArgs false
set_option maxRecDepth 100000
abbrev ExT := Int × Int × Int × ByteArray × List Rx
/-- Not deeper than so much, names short. -/
def FewP : Nat → Rx → Prop
  | 0, _ => False
  | d + 1, .mk _ _ _ s l => s.size ≤ 60 ∧ l.length ≤ 8 ∧ ∀ y ∈ l, FewP d y
theorem un_get (l : List Rx) (i : Nat) (hi : i < l.length) (d : ExT) : List.getD (l.map Rx.un) i d = (l.getD i default).un := by
  rw [List.getD_eq_getElem?_getD, List.getElem?_map, List.getElem?_eq_getElem hi, List.getD_eq_getElem?_getD, List.getElem?_eq_getElem hi]
  rfl
abbrev fewIn (x : Rx) (d : Nat) : world_few_ins.T := (((x.un.1, x.un.2.1, x.un.2.2.1, x.un.2.2.2.1, x.un.2.2.2.2.map Rx.un, ()), (d : Int), ()), ())
theorem few_at : ∀ (d n : Nat) (x : Rx), d ≤ 1000 → d + 12 ≤ n → (world_few n (fewIn x d) = some ((true, ()), ()) ∧ FewP d x) ∨ world_few n (fewIn x d) = some ((false, ()), ())
  | 0, n, x, hd, hn => by
    obtain ⟨n, rfl⟩ : ∃ q, n = q + 1 := ⟨n - 1, by omega⟩
    exact .inr rfl
  | d + 1, n, .mk a b c s l, hd, hn => by
    obtain ⟨n, rfl⟩ : ∃ q, n = q + 1 := ⟨n - 1, by omega⟩
    show (world_few (n + 1) (((a, b, c, s, l.map Rx.un, ()), ((d + 1 : Nat) : Int), ()), ()) = _ ∧ _) ∨ world_few (n + 1) (((a, b, c, s, l.map Rx.un, ()), ((d + 1 : Nat) : Int), ()), ()) = _
    rw [world_few, if_neg (show ¬ (((d + 1 : Nat) : Int) == 0) = true from fun e => by have := eq_of_beq e; omega)]
    by_cases h1 : (s.size : Int) > 60
    · rw [if_pos (decide_eq_true h1)]
      exact .inr rfl
    · rw [if_neg (by simpa using h1)]
      have hlm : (l.map Rx.un).length = l.length := List.length_map ..
      by_cases h2 : ((l.map Rx.un).length : Int) > 8
      · rw [if_pos (decide_eq_true h2)]
        exact .inr rfl
      · rw [if_neg (by simpa using h2)]
        have a := for_inv (F := world_few_l4 n (world_few n)) (len := l.length) (st := fun i => ((((d + 1 : Nat) : Int), (), (i : Int), ()), ((a, b, c, s, l.map Rx.un, ()), ()))) (fun i => ∀ y ∈ l.take i, FewP d y) (fun r => (r = some (.inl ((), ())) ∧ ∀ y ∈ l, FewP d y) ∨ r = some (.inr (.inl ((false, ()), ())))) (by simp) (fun i k hi hI => by
          have hg := un_get l i hi (Ty.dflt (tyEx 41))
          have hr : rdT (tyEx 41) (l.map Rx.un) (i : Int) = (l.getD i default).un := hg
          rw [world_few_l4, if_pos (decide_eq_true (show (i : Int) < ((l.map Rx.un).length : Int) by omega)), if_pos (show 0 ≤ (i : Int) ∧ (i : Int) < ((l.map Rx.un).length : Int) from ⟨by omega, by omega⟩)]
          simp only []
          rw [show IntKind.i64.wrap (((d + 1 : Nat) : Int) - 1) = (d : Int) by rw [w64]; omega]
          have hm := getD_mem l i hi default
          rcases few_at d n (l.getD i default) (by omega) (by omega) with ⟨h3, h4⟩ | h3
          · refine .inl ⟨fun y hy => ?_, ?_⟩
            · rw [take_succ l i hi default, List.mem_append] at hy
              rcases hy with hy | hy
              · exact hI y hy
              · rw [List.mem_singleton] at hy
                rw [hy]
                exact h4
            · have h3' : world_few n ((((rdT (tyEx 41) (l.map Rx.un) (i : Int)).1, ((rdT (tyEx 41) (l.map Rx.un) (i : Int)).2).1, (((rdT (tyEx 41) (l.map Rx.un) (i : Int)).2).2).1, ((((rdT (tyEx 41) (l.map Rx.un) (i : Int)).2).2).2).1, (((((rdT (tyEx 41) (l.map Rx.un) (i : Int)).2).2).2).2).map Rx.un, ()), (d : Int), ()), ()) = some ((true, ()), ()) := by rw [hr]; exact h3
              rw [h3']
              simp only []
              rw [if_neg (by decide), w64_up i (by omega)]
          · refine .inr (.inr ?_)
            have h3' : world_few n ((((rdT (tyEx 41) (l.map Rx.un) (i : Int)).1, ((rdT (tyEx 41) (l.map Rx.un) (i : Int)).2).1, (((rdT (tyEx 41) (l.map Rx.un) (i : Int)).2).2).1, ((((rdT (tyEx 41) (l.map Rx.un) (i : Int)).2).2).2).1, (((((rdT (tyEx 41) (l.map Rx.un) (i : Int)).2).2).2).2).map Rx.un, ()), (d : Int), ()), ()) = some ((false, ()), ()) := by rw [hr]; exact h3
            rw [h3']
            rfl) (fun k hI => by
          rw [List.take_length] at hI
          refine .inl ⟨?_, hI⟩
          rw [world_few_l4, if_neg (by simp)]) n (by omega)
        rcases a with ⟨a, ha⟩ | a
        · rw [show world_few_l4 n (world_few n) n ((((d + 1 : Nat) : Int), (), 0, ()), ((_, b, c, s, l.map Rx.un, ()), ())) = _ from a]
          exact .inl ⟨rfl, by omega, by omega, ha⟩
        · rw [show world_few_l4 n (world_few n) n ((((d + 1 : Nat) : Int), (), 0, ()), ((_, b, c, s, l.map Rx.un, ()), ())) = _ from a]
          exact .inr rfl
abbrev manyIn (x : Rx) : world_many_ins.T := (((x.un.1, x.un.2.1, x.un.2.2.1, x.un.2.2.2.1, x.un.2.2.2.2.map Rx.un, ()), ()), ())
theorem many_at : ∀ (d n : Nat) (x : Rx), d + 12 ≤ n → FewP d x → ∃ v : Int, world_many n (manyIn x) = some ((v, ()), ())
  | 0, n, x, hn, h => h.elim
  | d + 1, n, .mk a b c s l, hn, ⟨h1, h2, h3⟩ => by
    obtain ⟨n, rfl⟩ : ∃ q, n = q + 1 := ⟨n - 1, by omega⟩
    have hlm : (l.map Rx.un).length = l.length := List.length_map ..
    have main : ∀ q i k (v : Int), i + q = l.length → q < k → ∃ v' : Int, world_many_l3 n (world_many n) k (((), v, (i : Int), ()), ((a, b, c, s, l.map Rx.un, ()), ())) = some (.inl ((v', ()), ())) := by
      intro q
      induction q with
      | zero =>
        intro i k v hi hk
        obtain ⟨k, rfl⟩ : ∃ q, k = q + 1 := ⟨k - 1, by omega⟩
        exact ⟨v, by rw [world_many_l3, if_neg (by simp; omega)]⟩
      | succ q ih =>
        intro i k v hi hk
        obtain ⟨k, rfl⟩ : ∃ q, k = q + 1 := ⟨k - 1, by omega⟩
        have hr : rdT (tyEx 41) (l.map Rx.un) (i : Int) = (l.getD i default).un := un_get l i (by omega) (Ty.dflt (tyEx 41))
        obtain ⟨u, hu⟩ := many_at d n (l.getD i default) (by omega) (h3 _ (getD_mem l i (by omega) default))
        obtain ⟨v', hv⟩ := ih (i + 1) k (IntKind.i64.wrap (v + u)) (by omega) (by omega)
        refine ⟨v', ?_⟩
        have hu' : world_many n ((((rdT (tyEx 41) (l.map Rx.un) (i : Int)).1, ((rdT (tyEx 41) (l.map Rx.un) (i : Int)).2).1, (((rdT (tyEx 41) (l.map Rx.un) (i : Int)).2).2).1, ((((rdT (tyEx 41) (l.map Rx.un) (i : Int)).2).2).2).1, (((((rdT (tyEx 41) (l.map Rx.un) (i : Int)).2).2).2).2).map Rx.un, ()), ()), ()) = some ((u, ()), ()) := by rw [hr]; exact hu
        rw [world_many_l3, if_pos (decide_eq_true (show (i : Int) < ((l.map Rx.un).length : Int) by omega)), if_pos (show 0 ≤ (i : Int) ∧ (i : Int) < ((l.map Rx.un).length : Int) from ⟨by omega, by omega⟩), hu']
        simp only []
        rw [w64_up i (by omega)]
        exact hv
    obtain ⟨v', hv⟩ := main l.length 0 n 1 (by omega) (by omega)
    refine ⟨v', ?_⟩
    show world_many (n + 1) (((a, b, c, s, l.map Rx.un, ()), ()), ()) = _
    rw [world_many, show world_many_l3 n (world_many n) n (((), 1, 0, ()), ((a, b, c, s, l.map Rx.un, ()), ())) = _ from hv]
end Go.Proofs.YtnajjhjbkanigaaDoor.Pure
