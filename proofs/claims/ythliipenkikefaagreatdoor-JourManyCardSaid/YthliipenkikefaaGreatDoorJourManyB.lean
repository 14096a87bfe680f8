/- What a Commit does, in plain words. By this session. -/
import Derived.Test.YthliipenkikefaaGreatDoorJourManyA
namespace Go.Proofs.YthliipenkikefaaGreatDoor.Pure
open Go Go.Lib Go.Proofs.YthliipenkikefaaGreatDoor.Cm
set_option linter.unusedVariables false
set_option linter.unusedSimpArgs false
set_option maxRecDepth 100000
abbrev ChT := ByteArray × ByteArray × Bool
abbrev ks : ByteArray → ByteArray → Bool := keyEq (.str : Ty)
def apC (m : MM) (c : ChT) : MM := if c.2.2 then mdel ks c.1 m else mset ks c.1 c.2.1 m
def appl (m : MM) (l : List ChT) : MM := l.foldl apC m
theorem appl_take (m : MM) (l : List ChT) (i : Nat) (hi : i < l.length) (d : ChT) : appl m (l.take (i + 1)) = apC (appl m (l.take i)) (l.getD i d) := by
  unfold appl
  rw [take_succ l i hi d, List.foldl_append]
  rfl
theorem apply_at {n : Nat} (m : MM) (l : List ChT) (hn : l.length + 3 < n) (hl : l.length < 1000000) : jour_apply n (((), (), ()), (m, l, ())) = some (((), ()), (appl m l, l, ())) := by
  obtain ⟨n, rfl⟩ : ∃ m, n = m + 1 := ⟨n - 1, by omega⟩
  have h := for_all (F := jour_apply_l1 n) (len := l.length) (fun i => (((), (), (l.length : Int), (i : Int), ()), (appl m (l.take i), l, ()))) (r := some (.inl ((), (appl m l, l, ())))) (fun i k hi => by
    rw [appl_take m l i hi (Ty.dflt ty0)]
    simp only [jour_apply_l1]
    rw [if_pos (decide_eq_true (show (i : Int) < (l.length : Int) by omega)), if_pos (show 0 ≤ (i : Int) ∧ (i : Int) < (l.length : Int) from ⟨by omega, by omega⟩), rdT_nat, w64_up i (by omega)]
    unfold apC
    by_cases hg : (l.getD i (Ty.dflt ty0)).2.2 = true
    · rw [if_pos hg, if_pos hg]
    · rw [if_neg hg, if_neg hg]) (fun k => by
    simp only [jour_apply_l1]
    rw [if_neg (by simp), List.take_length]) (k := n) (by omega)
  simp only [jour_apply]
  rw [show jour_apply_l1 n n (((), (), (l.length : Int), 0, ()), (m, l, ())) = _ from h]
def okK (c : ChT) : Bool := decide (1 ≤ c.1.size) && decide (c.1.size ≤ 40)
def okV (c : ChT) : Bool := decide (c.2.1.size ≤ 32768)
/-- What is amiss. -/
def bad (m : MM) (l : List ChT) : Option Nat := if l.all okK = false then some 104 else if l.all okV = false then some 103 else if 256 < (appl m l).length then some 103 else none
theorem all_take {l : List ChT} {p : ChT → Bool} {i : Nat} (hi : i < l.length) (d : ChT) (h : (l.take i).all p = true) (hp : p (l.getD i d) = true) : (l.take (i + 1)).all p = true := by
  rw [take_succ l i hi d, List.all_append, h]
  show (true && (p (l.getD i d) && true)) = true
  rw [hp]
  rfl
theorem all_false {l : List ChT} {p : ChT → Bool} {i : Nat} (hi : i < l.length) (d : ChT) (hp : p (l.getD i d) = false) : l.all p = false := by
  cases h : l.all p with
  | false => rfl
  | true =>
    rw [List.all_eq_true] at h
    rw [h _ (getD_mem l i hi d)] at hp
    cases hp
theorem fits_at {n : Nat} (l : List ChT) (hn : l.length + 10 < n) (hl : l.length < 1000000) (h e q S c : Int) (m : MM) (f p : M) :
    jour_Store_fits n (((), (), ()), (((), (), h, e, q, ()), l, (S, (), (), c, 0, false, ()), m, f, p, ())) =
      match bad m l with
      | some code => some (.inr ((((((), ()), (ErrV.sent code, ()), ()), ()), (((), (), h, e, q, ()), l, (S, (), (), c, 0, false, ()), m, f, p, ()))))
      | none => some (.inl (((((), ()), (ErrV.nil, ()), ()), ()), (((), (), h, e, q, ()), l, (S, (), (), c, 0, false, ()), m, f, p, appl m l, ()))) := by
  obtain ⟨n, rfl⟩ : ∃ m, n = m + 1 := ⟨n - 1, by omega⟩
  have a := for_inv (F := jour_Store_fits_l2 n) (len := l.length) (st := fun i => (((), (), (), (l.length : Int), (i : Int), ()), (((), (), h, e, q, ()), l, (S, (), (), c, 0, false, ()), m, f, p, ()))) (fun i => (l.take i).all okK = true)
    (fun r => (r = some (.inl (((), (), ()), (((), (), h, e, q, ()), l, (S, (), (), c, 0, false, ()), m, f, p, ()))) ∧ l.all okK = true) ∨ (r = some (.inr (.inl (((), ErrV.sent 104, ()), (((), (), h, e, q, ()), l, (S, (), (), c, 0, false, ()), m, f, p, ())))) ∧ l.all okK = false)) (by simp) (fun i k hi hI => by
      simp only [jour_Store_fits_l2]
      rw [if_pos (decide_eq_true (show (i : Int) < (l.length : Int) by omega)), if_pos (show 0 ≤ (i : Int) ∧ (i : Int) < (l.length : Int) from ⟨by omega, by omega⟩), rdT_nat, w64_up i (by omega)]
      by_cases h1 : ((l.getD i (Ty.dflt ty0)).1.size : Int) < 1
      · rw [if_pos (decide_eq_true h1)]
        refine .inr (.inr ⟨rfl, all_false hi (Ty.dflt ty0) ?_⟩)
        unfold okK
        rw [decide_eq_false (by omega)]
        rfl
      · rw [if_neg (by simpa using h1)]
        by_cases h2 : ((l.getD i (Ty.dflt ty0)).1.size : Int) > 40
        · rw [if_pos (decide_eq_true h2)]
          refine .inr (.inr ⟨rfl, all_false hi (Ty.dflt ty0) ?_⟩)
          unfold okK
          rw [decide_eq_false (show ¬ (l.getD i (Ty.dflt ty0)).1.size ≤ 40 by omega), Bool.and_false]
        · rw [if_neg (by simpa using h2)]
          refine .inl ⟨all_take hi (Ty.dflt ty0) hI ?_, rfl⟩
          unfold okK
          rw [decide_eq_true (by omega), decide_eq_true (by omega)]
          rfl) (fun k hI => by
      rw [List.take_length] at hI
      refine .inl ⟨?_, hI⟩
      simp only [jour_Store_fits_l2]
      rw [if_neg (by simp)]) n (by omega)
  have b := for_inv (F := jour_Store_fits_l8 n) (len := l.length) (st := fun i => (((), (), (), (l.length : Int), (i : Int), ()), (((), (), h, e, q, ()), l, (S, (), (), c, 0, false, ()), m, f, p, ()))) (fun i => (l.take i).all okV = true)
    (fun r => (r = some (.inl (((), (), ()), (((), (), h, e, q, ()), l, (S, (), (), c, 0, false, ()), m, f, p, ()))) ∧ l.all okV = true) ∨ (r = some (.inr (.inl (((), ErrV.sent 103, ()), (((), (), h, e, q, ()), l, (S, (), (), c, 0, false, ()), m, f, p, ())))) ∧ l.all okV = false)) (by simp) (fun i k hi hI => by
      simp only [jour_Store_fits_l8]
      rw [if_pos (decide_eq_true (show (i : Int) < (l.length : Int) by omega)), if_pos (show 0 ≤ (i : Int) ∧ (i : Int) < (l.length : Int) from ⟨by omega, by omega⟩), rdT_nat, w64_up i (by omega)]
      by_cases h1 : ((l.getD i (Ty.dflt ty0)).2.1.size : Int) > 32768
      · rw [if_pos (decide_eq_true h1)]
        refine .inr (.inr ⟨rfl, all_false hi (Ty.dflt ty0) ?_⟩)
        unfold okV
        rw [decide_eq_false (by omega)]
      · rw [if_neg (by simpa using h1)]
        refine .inl ⟨all_take hi (Ty.dflt ty0) hI ?_, rfl⟩
        unfold okV
        rw [decide_eq_true (by omega)]) (fun k hI => by
      rw [List.take_length] at hI
      refine .inl ⟨?_, hI⟩
      simp only [jour_Store_fits_l8]
      rw [if_neg (by simp)]) n (by omega)
  have ea : ∀ r, jour_Store_fits_l2 n n (((), (), (), (l.length : Int), ((0 : Nat) : Int), ()), (((), (), h, e, q, ()), l, (S, (), (), c, 0, false, ()), m, f, p, ())) = r → jour_Store_fits_l2 n n (((), (), (), (l.length : Int), 0, ()), (((), (), h, e, q, ()), l, (S, (), (), c, 0, false, ()), m, f, p, ())) = r := fun r h => h
  have eb : ∀ r, jour_Store_fits_l8 n n (((), (), (), (l.length : Int), ((0 : Nat) : Int), ()), (((), (), h, e, q, ()), l, (S, (), (), c, 0, false, ()), m, f, p, ())) = r → jour_Store_fits_l8 n n (((), (), (), (l.length : Int), 0, ()), (((), (), h, e, q, ()), l, (S, (), (), c, 0, false, ()), m, f, p, ())) = r := fun r h => h
  simp only [jour_Store_fits]
  unfold bad
  rcases a with ⟨a, ha⟩ | ⟨a, ha⟩
  · rw [ea _ a, if_neg (by rw [ha]; decide)]
    simp only []
    rcases b with ⟨b, hb⟩ | ⟨b, hb⟩
    · rw [eb _ b, if_neg (by rw [hb]; decide)]
      simp only []
      rw [show maps_Clone_33 n (((), ()), (m, ())) = some (((), ()), (m, m, ())) from rfl]
      simp only []
      rw [apply_at m l (by omega) hl]
      simp only []
      by_cases h3 : 256 < (appl m l).length
      · rw [if_pos h3, if_pos (decide_eq_true (show ((appl m l).length : Int) > 256 by omega))]
      · rw [if_neg h3, if_neg (by simp; omega)]
    · rw [eb _ b, if_pos hb]
  · rw [ea _ a, if_pos ha]
/-! ### what is written -/
def chE (c : ChT) : List Int := (txt c.1 ++ enc (if c.2.2 then 1 else 0)) ++ (if c.2.2 then [] else txt c.2.1)
def by_ (kind : Int) (l : List ChT) : List Int := (enc kind ++ enc (l.length : Int)) ++ l.flatMap chE
theorem chE_len {c : ChT} (h1 : c.1.size ≤ 40) (h2 : c.2.1.size ≤ 32768) : (chE c).length ≤ 32838 := by
  obtain ⟨c1, c2, c3⟩ := c
  have a := txt_len c1
  have b := txt_len c2
  have d0 := (enc_len 0).2
  have d1 := (enc_len 1).2
  simp only at h1 h2
  cases c3 with
  | true =>
    show ((txt c1 ++ enc 1) ++ []).length ≤ _
    simp only [List.length_append, List.length_nil]
    omega
  | false =>
    show ((txt c1 ++ enc 0) ++ txt c2).length ≤ _
    simp only [List.length_append]
    omega
theorem flat_len {α : Type} (f : α → List Int) (m : Nat) : ∀ (l : List α), (∀ c ∈ l, (f c).length ≤ m) → (l.flatMap f).length ≤ m * l.length
  | [], _ => by simp
  | a :: l, h => by
    have h1 := h a List.mem_cons_self
    have h2 := flat_len f m l (fun c hc => h c (List.mem_cons_of_mem _ hc))
    simp only [List.flatMap_cons, List.length_append, List.length_cons, Nat.mul_add, Nat.mul_one]
    omega
theorem flat_take {α : Type} (f : α → List Int) (l : List α) (i : Nat) (h : i < l.length) (d : α) : (l.take (i + 1)).flatMap f = (l.take i).flatMap f ++ f (l.getD i d) := by
  rw [take_succ l i h d]
  simp
theorem by_len {kind : Int} {l : List ChT} (h : ∀ c ∈ l, c.1.size ≤ 40 ∧ c.2.1.size ≤ 32768) : (by_ kind l).length ≤ 20 + 32838 * l.length := by
  have h1 := (enc_len kind).2
  have h2 := (enc_len (l.length : Int)).2
  have h3 := flat_len chE 32838 l (fun c hc => chE_len (h c hc).1 (h c hc).2)
  simp only [by_, List.length_append]
  omega
theorem bytes_at {n : Nat} {l : List ChT} (hn : l.length + 100 < n) (hl : l.length ≤ 1000) (hs : ∀ c ∈ l, c.1.size ≤ 40 ∧ c.2.1.size ≤ 32768) {kind : Int} (hk : I64 kind) : jour_bytes n ((kind, (), ()), (l, ())) = some (((), ()), (l, by_ kind l, ())) := by
  obtain ⟨n, rfl⟩ : ∃ m, n = m + 1 := ⟨n - 1, by omega⟩
  have k1 := (enc_len kind).2
  have k2 := (enc_len (l.length : Int)).2
  have h := for_all (F := jour_bytes_l4 n) (len := l.length) (fun i => (((), (), (l.length : Int), (i : Int), ()), (l, (enc kind ++ enc (l.length : Int)) ++ (l.take i).flatMap chE, ()))) (r := some (.inl (((), ()), (l, by_ kind l, ())))) (fun i k hi => by
    have hm := hs _ (getD_mem l i hi (Ty.dflt ty0))
    have hfl : ((l.take i).flatMap chE).length ≤ 32838 * 1000 := by
      have h1 := flat_len chE 32838 (l.take i) (fun c hc => chE_len (hs c (List.mem_of_mem_take hc)).1 (hs c (List.mem_of_mem_take hc)).2)
      have h2 : (l.take i).length ≤ 1000 := by rw [List.length_take]; omega
      exact Nat.le_trans h1 (Nat.mul_le_mul_left _ h2)
    rw [flat_take chE l i hi (Ty.dflt ty0)]
    generalize hc : (l.getD i (Ty.dflt ty0) : ChT) = cc at hm
    obtain ⟨c1, c2, c3⟩ := cc
    have t1 := txt_len c1
    have t2 := txt_len c2
    simp only at hm
    have g9 : jour_bytes_c9 n (((), (), 0, (), (l.length : Int), (i : Int), ()), (l, (enc kind ++ enc (l.length : Int)) ++ (l.take i).flatMap chE, (c1, c2, c3, ()), ())) = some (.inl (((), (), (if c3 then 1 else 0), (), (l.length : Int), (i : Int), ()), (l, (enc kind ++ enc (l.length : Int)) ++ (l.take i).flatMap chE, (c1, c2, c3, ()), ()))) := by
      simp only [jour_bytes_c9]
      cases c3 <;> rfl
    have gi : I64 (if c3 then 1 else 0) := by cases c3 <;> exact ⟨by decide, by decide⟩
    have e1 := (enc_len (if c3 then 1 else 0)).2
    have hc' : rdT ty0 l (i : Int) = (c1, c2, c3) := hc
    simp only [jour_bytes_l4]
    rw [if_pos (decide_eq_true (show (i : Int) < (l.length : Int) by omega)), if_pos (show 0 ≤ (i : Int) ∧ (i : Int) < (l.length : Int) from ⟨by omega, by omega⟩), hc', g9]
    simp only []
    rw [PutText_at (by omega) c1 [] (by simp; omega)]
    simp only [List.nil_append]
    rw [Put_at (by omega) gi (txt c1) (by omega)]
    simp only []
    rw [if_pos (by simp only [List.length_append]; omega)]
    cases c3 with
    | true =>
      rw [if_neg (by decide), w64_up i (by omega), List.append_assoc, List.append_assoc]
      simp only [chE, if_true, List.append_nil, List.append_assoc]
    | false =>
      rw [if_pos (by decide), PutText_at (by omega) c2 [] (by simp; omega)]
      simp only [List.nil_append]
      rw [if_pos (by simp only [List.length_append]; omega), w64_up i (by omega)]
      simp only [chE, Bool.false_eq_true, if_false, List.append_assoc]) (fun k => by
    simp only [jour_bytes_l4]
    rw [if_neg (by simp), List.take_length]
    rfl) (k := n) (by omega)
  simp only [jour_bytes]
  rw [Put_at (by omega) hk [] (by simp)]
  simp only [List.nil_append]
  rw [Put_at (by omega) ⟨by omega, by omega⟩ (enc kind) (by omega)]
  simp only []
  rw [show jour_bytes_l4 n n (((), (), (l.length : Int), 0, ()), (l, enc kind ++ enc (l.length : Int), ())) = _ by
    have := h
    simp only [List.take_zero, List.flatMap_nil, List.append_nil] at this
    exact this]
end Go.Proofs.YthliipenkikefaaGreatDoor.Pure
