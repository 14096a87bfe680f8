/- PlanCarries, in plain words. -/
import Derived.Test.YtbkglcehcjlmgaaDoorKCarryR
import Derived.Test.YtbkglcehcjlmgaaDoorPl
import Derived.Test.YtbkglcehcjlmgaaDoorItoa
set_option linter.unusedSimpArgs false
set_option linter.unusedVariables false
namespace Go.Proofs.YtbkglcehcjlmgaaDoor.PlanC
open Go.RowKit Go.Proofs.YtbkglcehcjlmgaaDoor.KCarry Go.Proofs.YtbkglcehcjlmgaaDoor.Pl Go.Proofs.YtbkglcehcjlmgaaDoorW.PrintWords Go.Proofs.YtbkglcehcjlmgaaDoorW.PrintLast Go.Proofs.YtbkglcehcjlmgaaDoorW.PrintMore

theorem first_ans : Ans (fun k => pendulumlaw26_first.f k) true := Ans.of_mono (m := 1000) pendulumlaw26_first.mono (by kernel_rfl)
/-- Where a cell has its value from. -/
def mv (x : List S39) (i : Nat) (s : S39) : S56 := if slotPlace x s < 0 then ⟨i, -1, s.f2⟩ else ⟨i, slotPlace x s, 0⟩
theorem of_ans (x y : List S39) (hy : y.length < 5864062014805) : Ans (fun k => plan_Of.f k x y) ((List.range' 0 y.length).map fun (i : Nat) => mv x i (rd_T39 y i)) := by
  have := app_loop (L := fun k acc i => plan_Of.l0 k x acc y y.length i) (n := y.length) (f := fun (i : Nat) => mv x i (rd_T39 y i)) (fin := id) (Nat.le_refl _) (fun k acc i hi ha => by
      simp only [plan_Of.l0, plan_Place.f, Option.bind_some]
      rw [if_pos (by omega), if_pos (by omega), if_pos (by omega)]
      unfold mv
      split
      · rw [if_pos (by omega), up i (by omega)]
      · rw [if_pos (by omega), up i (by omega)])
    (fun k acc => by simp only [plan_Of.l0]; rw [if_neg (by omega)]; rfl) y.length 0 [] (by omega) rfl
  rw [List.nil_append] at this
  exact this

theorem slotLike_iff (a b : S39) : slotLike a b = true ↔ a.f0.toList = b.f0.toList ∧ a.f1 = b.f1 := by
  unfold slotLike
  rw [Bool.and_eq_true, beq_iff_eq, beq_iff_eq]
theorem like_trans {a b c : S39} (h : slotLike a b = true) : slotLike b c = slotLike a c := by
  obtain ⟨h1, h2⟩ := (slotLike_iff _ _).1 h
  unfold slotLike
  rw [h1, h2]
theorem place_none {x : List S39} {s : S39} (h : ∀ q, q < x.length → slotLike (x.getD q z39) s = false) : slotPlace x s = -1 := by
  unfold slotPlace
  rw [List.findIdx?_eq_none_iff.2 (fun a ha => by
    obtain ⟨q, hq⟩ := List.getElem?_of_mem ha
    have := h q (List.getElem?_eq_some_iff.1 hq).1
    rwa [List.getD_eq_getElem?_getD, hq, Option.getD_some] at this)]
theorem place_at {x : List S39} {s : S39} {j : Nat} (hj : j < x.length) (hk : slotLike (x.getD j z39) s = true) (h : ∀ q, q < j → slotLike (x.getD q z39) s = false) : slotPlace x s = (j : Int) := by
  unfold slotPlace
  have hf : x.findIdx? (fun a => slotLike a s) = some j := by
    refine List.findIdx?_eq_some_iff_getElem.2 ⟨hj, ?_, fun q hq => ?_⟩
    · rw [List.getD_eq_getElem?_getD, List.getElem?_eq_getElem hj, Option.getD_some] at hk; exact hk
    · have := h q hq
      rw [List.getD_eq_getElem?_getD, List.getElem?_eq_getElem (by omega), Option.getD_some] at this
      simp [this]
  rw [hf]
/-- Either none is alike, or the place is the first that is. -/
theorem place_cases (x : List S39) (s : S39) : (slotPlace x s = -1 ∧ ∀ q, q < x.length → slotLike (x.getD q z39) s = false) ∨
    ∃ j, j < x.length ∧ slotPlace x s = (j : Nat) ∧ slotLike (x.getD j z39) s = true ∧ ∀ q, q < j → slotLike (x.getD q z39) s = false := by
  by_cases h : ∃ j, j < x.length ∧ slotLike (x.getD j z39) s = true
  · obtain ⟨j, hj⟩ := h
    induction j using Nat.strongRecOn with
    | ind j ih =>
      by_cases h2 : ∃ q, q < j ∧ slotLike (x.getD q z39) s = true
      · obtain ⟨q, hq, hq2⟩ := h2
        exact ih q hq ⟨by omega, hq2⟩
      · have h3 : ∀ q, q < j → slotLike (x.getD q z39) s = false := fun q hq => Bool.eq_false_iff.2 fun e => h2 ⟨q, hq, e⟩
        exact .inr ⟨j, hj.1, place_at hj.1 hj.2 h3, hj.2, h3⟩
  · have h3 : ∀ q, q < x.length → slotLike (x.getD q z39) s = false := fun q hq => Bool.eq_false_iff.2 fun e => h ⟨q, hq, e⟩
    exact .inl ⟨place_none h3, h3⟩

/-- What a cell is, of the memory s. -/
def cell (x : List S39) (s : List Int) (c : S39) : Int := if slotPlace x c < 0 then c.f2 else rd s (slotPlace x c)
theorem do_of (x y : List S39) (s : List Int) (hs : s.length = x.length) (hy : y.length < 5864062014805) :
    Ans (fun k => plan_Do.f k ((List.range' 0 y.length).map fun (i : Nat) => mv x i (rd_T39 y i)) s) ((List.range' 0 y.length).map fun (i : Nat) => cell x s (rd_T39 y i), none) := by
  obtain ⟨p, hp⟩ : ∃ p, (List.range' 0 y.length).map (fun (i : Nat) => mv x i (rd_T39 y i)) = p := ⟨_, rfl⟩
  have hpl : p.length = y.length := by rw [← hp]; simp
  have hpi : ∀ i, i < y.length → rd_T56 p (i : Int) = mv x i (rd_T39 y i) := fun i hi => by
    show p.getD i z56 = _
    rw [← hp, List.getD_eq_getElem?_getD, List.getElem?_map, List.getElem?_eq_getElem (by simpa using hi)]
    simp
  rw [hp]
  have run := app_run (L := fun k acc i => plan_Do.l0 k s acc p p.length i) (n := y.length) (f := fun (i : Nat) => cell x s (rd_T39 y i)) (r := ((List.range' 0 y.length).map fun (i : Nat) => cell x s (rd_T39 y i), (none : Option Int)))
    (fun acc i hi ha next => by
      have hm := hpi i hi
      rcases place_cases x (rd_T39 y i) with ⟨h1, _⟩ | ⟨j, hj, h1, _, _⟩
      · have hmv : mv x i (rd_T39 y i) = ⟨i, -1, (rd_T39 y i).f2⟩ := by unfold mv; rw [h1]; rfl
        have hc : cell x s (rd_T39 y i) = (rd_T39 y i).f2 := by unfold cell; rw [h1]; rfl
        rw [hc] at next
        rw [hmv] at hm
        refine Ans.succ (G := fun k => plan_Do.j1 k s acc p p.length i false i (-1) ((rd_T39 y i).f2)) (fun k => ?_) (Ans.succ (fun k => ?_) next)
        · simp only [plan_Do.l0, hm]
          rw [if_pos (by omega), if_pos (by omega), if_pos (by omega), if_true, if_neg (by omega), decide_eq_false (by omega)]
        · simp only [plan_Do.j1]
          rw [if_neg (by simp), if_true, if_pos (by omega), up i (by omega)]
      · have hmv : mv x i (rd_T39 y i) = ⟨i, j, 0⟩ := by unfold mv; rw [h1, if_neg (by omega)]
        have hc : cell x s (rd_T39 y i) = rd s j := by unfold cell; rw [h1, if_neg (by omega)]
        rw [hc] at next
        rw [hmv] at hm
        refine Ans.succ (G := fun k => plan_Do.j1 k s acc p p.length i false i j 0) (fun k => ?_) (Ans.succ (fun k => ?_) next)
        · simp only [plan_Do.l0, hm]
          rw [if_pos (by omega), if_pos (by omega), if_pos (by omega), if_true, if_neg (by omega), decide_eq_false (by omega)]
        · simp only [plan_Do.j1]
          rw [if_neg (by simp), if_neg (by omega), if_pos (by omega), if_pos (by omega), if_pos (by omega), up i (by omega)])
    y.length 0 [] (by omega) rfl (Ans.succ (fun k => by simp only [plan_Do.l0]; rw [if_neg (by omega), List.nil_append]) (Ans.some _))
  refine run.congr fun k => ?_
  unfold plan_Do.f; rfl


theorem sameLongs_ans (x : List Int) (hx : x.length < 4611686018427387904) : Ans (fun k => pendulumref_SameLongs.f k x x) true := by
  refine Ans.congr (G := fun k => pendulumref_SameLongs.l0 k x x ((0 : Nat) : Int)) ?_ (fun k => by unfold pendulumref_SameLongs.f; rw [if_pos rfl]; rfl)
  have := eq_loop (L := fun k i => pendulumref_SameLongs.l0 k x x i) rfl hx (fun k i hi => by simp only [pendulumref_SameLongs.l0]; rw [if_pos (by omega), if_pos (by omega), if_pos (by omega), if_true, if_true, up i (by omega)])
    (fun k => by simp only [pendulumref_SameLongs.l0]; rw [if_neg (by omega)]) x.length 0 (by omega)
  simpa using this

theorem number_f (a n : Int) (h0 : 0 < n) (h1 : n < 4611686018427387904) : ∃ t, pendulumworld_Number.f a n = some t ∧ 0 ≤ t ∧ t < n := by
  have hu := Int.tmod_lt_of_pos a h0
  have hl := Int.lt_tmod_of_pos a h0
  unfold pendulumworld_Number.f
  rw [if_neg (by omega)]
  by_cases h : Int.tmod a n < 0
  · rw [if_pos h]
    refine ⟨_, rfl, ?_⟩
    unfold wrap64
    omega
  · rw [if_neg h]
    exact ⟨_, rfl, by omega, hu⟩

/-- A number's text. -/
def txt (i : Int) : ByteArray := ⟨(Lib.itoa i).toArray⟩
theorem txt_size (i : Int) (h0 : -9223372036854775808 ≤ i) (h1 : i ≤ 9223372036854775807) : (txt i).size ≤ 21 := by
  have := Lib.itoa_length_le i h0 h1
  simpa [txt, ByteArray.size] using this
theorem num_f (i : Int) (h0 : -9223372036854775808 ≤ i) (h1 : i ≤ 9223372036854775807) : pendulumworld_Num.f i = some (txt i) := by
  unfold pendulumworld_Num.f strconv_Itoa.f
  rw [if_pos ⟨h0, h1⟩]; rfl
def xname (i : Int) : ByteArray := (⟨#[120]⟩ : ByteArray) ++ txt i
theorem xname_list (i : Int) : (xname i).toList = 120 :: Lib.itoa i := by
  rw [Go.ByteArray.toList_eq]
  simp [xname, txt]
theorem new_list (i : Int) : ((⟨#[110, 101, 119]⟩ : ByteArray) ++ txt i).toList = 110 :: 101 :: 119 :: Lib.itoa i := by
  rw [Go.ByteArray.toList_eq]
  simp [txt]
theorem xname_inj {a b : Nat} (h : (xname a).toList = (xname b).toList) : a = b := by
  rw [xname_list, xname_list] at h
  exact ItoaA.itoa_inj (List.cons.inj h).2

/-- The elder layout. -/
def slotAt (i : Nat) : S39 := ⟨xname i, 1, 5⟩
def lay (n : Nat) : List S39 := (List.range' 0 n).map slotAt
theorem lay_length (n : Nat) : (lay n).length = n := by simp [lay]
theorem lay_get (n i : Nat) (h : i < n) : (lay n).getD i z39 = slotAt i := by
  unfold lay
  rw [List.getD_eq_getElem?_getD, List.getElem?_map, List.getElem?_eq_getElem (by simpa using h)]
  simp
theorem lay_succ (n : Nat) : lay (n + 1) = lay n ++ [slotAt n] := by
  unfold lay
  rw [List.range'_1_concat]; simp
theorem place_x (n k : Nat) (h : k < n) (v : Int) : slotPlace (lay n) ⟨xname k, 1, v⟩ = (k : Int) := by
  refine place_at (by rw [lay_length]; exact h) ?_ (fun q hq => ?_)
  · rw [lay_get n k h]
    exact (slotLike_iff _ _).2 ⟨rfl, rfl⟩
  · rw [lay_get n q (by omega)]
    refine Bool.eq_false_iff.2 fun e => ?_
    have := xname_inj ((slotLike_iff _ _).1 e).1
    omega
theorem place_other (n : Nat) (s : S39) (h : ∀ q : Nat, (xname q).toList = s.f0.toList → (1 : Int) ≠ s.f1) : slotPlace (lay n) s = -1 := by
  refine place_none (fun q hq => ?_)
  rw [lay_length] at hq
  rw [lay_get n q hq]
  refine Bool.eq_false_iff.2 fun e => ?_
  obtain ⟨h1, h2⟩ := (slotLike_iff _ _).1 e
  exact h q h1 h2
theorem cell_x (n k : Nat) (h : k < n) (v : Int) (m : List Int) : cell (lay n) m ⟨xname k, 1, v⟩ = rd m k := by
  unfold cell
  rw [place_x n k h v, if_neg (by omega)]
theorem cell_bool (n : Nat) (b : ByteArray) (m : List Int) (v : Int) : cell (lay n) m ⟨b, 2, v⟩ = v := by
  unfold cell
  rw [place_other n _ (fun q _ => by show (1 : Int) ≠ 2; decide)]; rfl
theorem cell_new (n : Nat) (i : Int) (m : List Int) (v : Int) : cell (lay n) m ⟨(⟨#[110, 101, 119]⟩ : ByteArray) ++ txt i, 1, v⟩ = v := by
  unfold cell
  rw [place_other n _ (fun q hq => by
    rw [xname_list] at hq
    have h2 := new_list i
    simp only at hq
    rw [h2] at hq
    exact absurd (List.cons.inj hq).1 (by decide))]
  rfl

section
variable (n : Nat) (order s : List Int) (drop : Int) (m : List Int)
/-- What was carried so far. -/
def Carried (tt : List S39) (want : List Int) (i : Nat) : Prop := tt.length = i ∧ want.length = i ∧ ∀ j, j < i → want.getD j 0 = cell (lay n) m (tt.getD j z39)
theorem Carried.snoc {tt : List S39} {want : List Int} {i : Nat} (h : Carried n m tt want i) (c : S39) (v : Int) (hv : v = cell (lay n) m c) : Carried n m (tt ++ [c]) (want ++ [v]) (i + 1) := by
  obtain ⟨h1, h2, h3⟩ := h
  refine ⟨by simp [h1], by simp [h2], fun j hj => ?_⟩
  rcases Nat.lt_or_ge j i with h | h
  · rw [List.getD_eq_getElem?_getD, List.getElem?_append_left (by omega), ← List.getD_eq_getElem?_getD, h3 j h, List.getD_eq_getElem?_getD (l := tt ++ [c]), List.getElem?_append_left (by omega), ← List.getD_eq_getElem?_getD]
  · obtain rfl : j = i := by omega
    rw [List.getD_eq_getElem?_getD, List.getElem?_append_right (by omega), List.getD_eq_getElem?_getD (l := tt ++ [c]), List.getElem?_append_right (by omega)]
    simp [h1, h2, hv]

theorem carry_end (hm : m.length = n) (hn : n ≤ 20) (ho : order.length ≤ 40) (tt : List S39) (want : List Int) (hc : Carried n m tt want order.length) :
    Ans (fun k => pendulumlaw26_PlanCarries.l1 k n order drop (lay n) tt m want (order.length : Nat)) true := by
  obtain ⟨h1, h2, h3⟩ := hc
  have hw : (List.range' 0 tt.length).map (fun (i : Nat) => cell (lay n) m (rd_T39 tt i)) = want := by
    apply List.ext_getElem?
    intro i
    rw [List.getElem?_map]
    rcases Nat.lt_or_ge i tt.length with h | h
    · rw [List.getElem?_eq_getElem (by simpa using h), List.getElem?_eq_getElem (by omega)]
      have := h3 i (by omega)
      rw [List.getD_eq_getElem?_getD, List.getElem?_eq_getElem (by omega), Option.getD_some] at this
      rw [this]
      simp [rd_T39]
    · rw [List.getElem?_eq_none (by simpa using h), List.getElem?_eq_none (by omega)]; rfl
  have hw2 : (List.range' 0 (lay n).length).map (fun (i : Nat) => cell (lay n) m (rd_T39 (lay n) i)) = m := by
    apply List.ext_getElem?
    intro i
    rw [List.getElem?_map, lay_length]
    rcases Nat.lt_or_ge i n with h | h
    · rw [List.getElem?_eq_getElem (by simpa using h), List.getElem?_eq_getElem (by omega)]
      have e : rd_T39 (lay n) ((i : Nat) : Int) = slotAt i := lay_get n i h
      have := cell_x n i h 5 m
      rw [rd_nat, List.getD_eq_getElem?_getD, List.getElem?_eq_getElem (by omega)] at this
      simpa [e, slotAt] using this
    · rw [List.getElem?_eq_none (by simpa using h), List.getElem?_eq_none (by omega)]; rfl
  have hd1 := do_of (lay n) tt m (by rw [lay_length]; exact hm) (by omega)
  have hd2 := do_of (lay n) (lay n) m (by rw [lay_length]; exact hm) (by rw [lay_length]; omega)
  rw [hw] at hd1
  rw [hw2] at hd2
  refine Ans.succ (fun k => by simp only [pendulumlaw26_PlanCarries.l1]; rw [if_neg (by omega)]) ?_
  refine Ans.bind (of_ans (lay n) tt (by omega)) ?_
  refine Ans.bind hd1 ?_
  refine Ans.bind (of_ans (lay n) (lay n) (by rw [lay_length]; omega)) ?_
  refine Ans.bind hd2 ?_
  refine Ans.ite_pos rfl (Ans.ite_pos rfl ?_)
  refine Ans.bind (sameLongs_ans want (by omega)) ?_
  refine Ans.ite_pos rfl ?_
  refine Ans.bind (sameLongs_ans m (by omega)) ?_
  exact Ans.some _

theorem carry_l2 (tt : List S39) (want : List Int) (i q : Nat) (name : ByteArray) (hto : tt.length ≤ 40) (h : ∀ b, Ans (fun k => pendulumlaw26_PlanCarries.j4 k n order drop (lay n) tt m want i q name b) true) (d : Nat) :
    ∀ (j : Nat) (u : Bool), j + d = tt.length → Ans (fun k => pendulumlaw26_PlanCarries.l2 k n order drop (lay n) tt m want i q name u j) true := by
  induction d with
  | zero =>
    intro j u hj
    refine Ans.succ (fun k => by simp only [pendulumlaw26_PlanCarries.l2]; rw [if_neg (by omega)]) ?_
    exact Ans.ite (fun _ => h _) (fun _ => h _)
  | succ d ih =>
    intro j u hj
    refine Ans.succ (fun k => by simp only [pendulumlaw26_PlanCarries.l2]; rw [if_pos (by omega), up j (by omega)]) ?_
    exact Ans.ite (fun _ => Ans.ite_pos (by omega) (ih (j + 1) _ (by omega))) (fun _ => ih (j + 1) _ (by omega))

theorem carry_l1 (hm : m.length = n) (h0 : 0 < n) (hn : n ≤ 20) (ho : order.length ≤ 40) (d : Nat) :
    ∀ (i : Nat) (tt : List S39) (want : List Int), i + d = order.length → Carried n m tt want i → Ans (fun k => pendulumlaw26_PlanCarries.l1 k n order drop (lay n) tt m want i) true := by
  induction d with
  | zero =>
    intro i tt want hi hc
    obtain rfl : i = order.length := by omega
    exact carry_end n order drop m hm hn ho tt want hc
  | succ d ih =>
    intro i tt want hi hc
    obtain ⟨t, ht, ht0, ht1⟩ := number_f (rd order i) n (by omega) (by omega)
    obtain ⟨q, rfl⟩ := Int.eq_ofNat_of_zero_le ht0
    have hq : q < n := by omega
    have hs := txt_size q (by omega) (by omega)
    refine Ans.succ (fun k => by simp only [pendulumlaw26_PlanCarries.l1, ht, Option.bind_some, num_f (q : Int) (by omega) (by omega)]; rw [if_pos (by omega), if_pos (by omega), if_pos (by omega)]) ?_
    refine carry_l2 n order drop m tt want i q (xname q) (by have := hc.1; omega) (fun b => ?_) tt.length 0 true (by omega)
    have hs2 := txt_size i (by omega) (by omega)
    have hl1 := hc.1
    have hl2 := hc.2.1
    refine Ans.succ (fun k => by simp only [pendulumlaw26_PlanCarries.j4, num_f (i : Int) (by omega) (by omega), Option.bind_some]; rw [up i (by omega)]) ?_
    refine Ans.ite (fun _ => ?_) (fun _ => ?_)
    · refine Ans.ite_pos (by omega) (Ans.ite_pos (by omega) (Ans.ite_pos (by omega) ?_))
      exact ih (i + 1) _ _ (by omega) (hc.snoc n m _ _ (cell_new n i m i).symm)
    · refine Ans.ite_pos (by omega) (Ans.ite_pos (by omega) (Ans.ite_pos (by omega) (Ans.ite_pos (by omega) ?_)))
      refine Ans.ite (fun _ => Ans.ite_pos (by omega) (Ans.ite_pos (by omega) ?_)) (fun _ => Ans.ite_pos (by omega) (Ans.ite_pos (by omega) ?_))
      · exact ih (i + 1) _ _ (by omega) (hc.snoc n m _ _ (cell_bool n (xname q) m 1).symm)
      · exact ih (i + 1) _ _ (by omega) (hc.snoc n m _ _ (cell_x n q hq 1 m).symm)

theorem carry_l0 (h0 : 0 < n) (hn : n ≤ 20) (ho : order.length ≤ 40) (d : Nat) : ∀ (i : Nat) (m : List Int), i + d = n → m.length = i → Ans (fun k => pendulumlaw26_PlanCarries.l0 k n order s drop (lay i) m i) true := by
  induction d with
  | zero =>
    intro i m hi hm
    obtain rfl : i = n := by omega
    obtain ⟨t, ht, _, _⟩ := number_f drop i (by omega) (by omega)
    refine Ans.succ (fun k => by simp only [pendulumlaw26_PlanCarries.l0, ht, Option.bind_some]; rw [if_neg (by omega)]) ?_
    exact carry_l1 i order t m hm h0 hn ho order.length 0 [] [] (by omega) ⟨rfl, rfl, fun j hj => absurd hj (by omega)⟩
  | succ d ih =>
    intro i m hi hm
    have hs := txt_size i (by omega) (by omega)
    refine Ans.succ (fun k => by simp only [pendulumlaw26_PlanCarries.l0, num_f (i : Int) (by omega) (by omega), Option.bind_some]; rw [if_pos (by omega), if_pos (by omega), if_pos (by rw [lay_length]; omega), up i (by omega)]) ?_
    have e : lay i ++ [(⟨(⟨#[120]⟩ : ByteArray) ++ txt i, 1, 5⟩ : S39)] = lay (i + 1) := (lay_succ i).symm
    rw [e]
    refine Ans.ite (fun _ => Ans.ite_pos (by omega) (Ans.ite_pos (by omega) ?_)) (fun _ => Ans.ite_pos (by omega) ?_)
    · exact ih (i + 1) _ (by omega) (by simp [hm])
    · exact ih (i + 1) _ (by omega) (by simp [hm])
end
theorem PlanCarries : pendulumlaw26_PlanCarries.Pure := by
  intro a order s drop _ ho _ hs _ _
  refine Ans.exists ?_
  unfold pendulumlaw26_PlanCarries.f
  refine Ans.bind first_ans ?_
  refine Ans.ite_pos rfl ?_
  obtain ⟨t, ht, ht0, ht1⟩ := number_f a 20 (by omega) (by omega)
  refine Ans.bind (Ans.of_eq fun _ => ht) ?_
  have skip : Ans (fun k => pendulumlaw26_PlanCarries.j0 k (wrap64 (t + 1)) order s drop true true) true := Ans.succ (fun k => by simp only [pendulumlaw26_PlanCarries.j0, if_true]) (Ans.some _)
  refine Ans.ite (fun _ => skip) (fun h2 => ?_)
  refine Ans.ite (fun _ => skip) (fun h3 => ?_)
  refine Ans.succ (fun k => by simp only [pendulumlaw26_PlanCarries.j0]; rfl) ?_
  refine Ans.ite_neg (by simp) ?_
  obtain ⟨q, rfl⟩ := Int.eq_ofNat_of_zero_le ht0
  rw [show wrap64 ((q : Int) + 1) = ((q + 1 : Nat) : Int) from up q (by omega)]
  exact carry_l0 (q + 1) order s drop (by omega) (by omega) (by omega) (q + 1) 0 [] (by omega) rfl
end Go.Proofs.YtbkglcehcjlmgaaDoor.PlanC
namespace Go.Proofs.YtbkglcehcjlmgaaDoor.Pure
theorem PlanCarries : KCarry.pendulumlaw26_PlanCarries.Pure := PlanC.PlanCarries
end Go.Proofs.YtbkglcehcjlmgaaDoor.Pure
