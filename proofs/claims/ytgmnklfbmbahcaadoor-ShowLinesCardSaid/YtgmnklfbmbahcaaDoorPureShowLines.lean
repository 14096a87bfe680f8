/- ShowLines, in plain words. -/
import Derived.Test.YtgmnklfbmbahcaaDoorTShowLinesA
import Derived.Lib.Join
set_option linter.unusedSimpArgs false
set_option linter.unusedVariables false
namespace Go.Proofs.YtgmnklfbmbahcaaDoor.TShowLinesA
open Go.RowKit Go.Proofs.YtgmnklfbmbahcaaDoor.KTShowLines Go.Proofs.YtgmnklfbmbahcaaDoor.Pl Go.Proofs.YtgmnklfbmbahcaaDoorW.PrintWords Go.Proofs.YtgmnklfbmbahcaaDoorW.PrintLast Go.Proofs.YtgmnklfbmbahcaaDoorW.PrintMore

theorem number_f (a n : Int) (h0 : 0 < n) (h1 : n < 4611686018427387904) : ∃ t, pendulumworld_Number.f a n = some t ∧ 0 ≤ t ∧ t < n := by
  have hu := Int.tmod_lt_of_pos a h0
  have hl := Int.lt_tmod_of_pos a h0
  unfold pendulumworld_Number.f
  rw [if_neg (by omega)]
  by_cases h : Int.tmod a n < 0
  · rw [if_pos h]
    refine ⟨_, rfl, ?_⟩
    unfold wrap64
    omega
  · rw [if_neg h]
    exact ⟨_, rfl, by omega, hu⟩

theorem first_ans : Ans (fun k => pendulumlaw8_first.f k) true := by
  unfold pendulumlaw8_first.f
  have hv : Sh ⟨3, 0, 0, ⟨#[97]⟩, []⟩ ⟨#[97]⟩ := sh_var 0 0 _ []
  have hi : Sh ⟨1, 0, 1, ⟨#[]⟩, []⟩ ⟨(Lib.itoa 1).toArray⟩ := sh_int 0 1 _ [] (by decide) (by decide)
  have e1 : (⟨(Lib.itoa 1).toArray⟩ : ByteArray) = ⟨#[49]⟩ := by
    rw [show Lib.itoa 1 = Lib.decDigits 1 from Lib.itoa_nonneg 1, Lib.decDigits_one (by omega)]; rfl
  rw [e1] at hi
  have hb : Sh ⟨3, 0, 0, ⟨#[98]⟩, []⟩ ⟨#[98]⟩ := sh_var 0 0 _ []
  have ha := sh_two 6 0 0 ⟨#[]⟩ _ _ [] _ _ ⟨#[43]⟩ hv hi (by decide) (by decide) (few_ans 6 2 10 (by kernel_rfl)) (Ans.of_mono (m := 10) (fun k => show_Sign.mono _ k) (by kernel_rfl)) (by decide) (by decide)
  have hn := sh_neg 0 0 ⟨#[]⟩ _ [] _ hb (by decide)
  have hm := sh_two 8 0 0 ⟨#[]⟩ _ _ [] _ _ ⟨#[42]⟩ ha hn (by decide +kernel) (by decide +kernel) (few_ans 8 2 10 (by kernel_rfl)) (Ans.of_mono (m := 10) (fun k => show_Sign.mono _ k) (by kernel_rfl)) (by decide) (by decide)
  refine Ans.bind hm ?_
  exact Ans.of_eq fun _ => by
    rw [Go.ByteArray.toList_eq]
    kernel_rfl

theorem len_eq (t : ByteArray) : t.data.toList.length = t.size := Array.length_toList
theorem data_append' (a b : ByteArray) : (a ++ b).data.toList = a.data.toList ++ b.data.toList := by rw [ByteArray.data_append, Array.toList_append]
def cnt (t : ByteArray) : Nat := t.data.toList.count 10
theorem cnt_append (a b : ByteArray) : cnt (a ++ b) = cnt a + cnt b := by
  unfold cnt
  rw [data_append', List.count_append]
theorem bt_get (s : ByteArray) (i : Nat) (h : i < s.size) : bt s (i : Int) = ((s.data.toList.getD i 0).toNat : Int) := by
  unfold bt
  rw [dif_pos (by simpa using h), List.getD_eq_getElem?_getD, List.getElem?_eq_getElem (by rw [len_eq]; exact h)]
  rfl

/-- A number of one digit. -/
def dig (i : Nat) : ByteArray := ⟨#[UInt8.ofNat (48 + i)]⟩
theorem itoa_dig (i : Nat) (h : i < 10) : (⟨(Lib.itoa (i : Int)).toArray⟩ : ByteArray) = dig i := by
  rw [Lib.itoa_nonneg, Lib.decDigits_one h]; rfl
theorem dig_cnt : ∀ i : Fin 10, cnt (dig i.1) = 0 := by decide

/-- A variable of no clocks. -/
theorem decl_ans (p : Int) (name : ByteArray) (ty : Int) (hs : name.size ≤ 1000) : Ans (fun k => show_Decl.f k p name ty []) (name ++ (if ty = 2 then ⟨#[58, 32, 98, 111, 111, 108]⟩ else ⟨#[58, 32, 105, 110, 116]⟩)) := by
  unfold show_Decl.f
  have hj : ∀ x, Ans (fun k => show_Decl.j0 k x p name ty []) x := fun x =>
    Ans.succ (fun k => by simp only [show_Decl.j0]; rfl) (Ans.succ (fun k => by simp only [show_Decl.l0]; rw [if_neg (by decide)]) (Ans.some _))
  refine Ans.ite_pos (by omega) (Ans.ite (fun h => Ans.ite_pos (by omega) ?_) (fun h => ?_))
  · rw [if_pos h]; exact hj _
  · rw [if_neg h]; exact hj _

theorem join_mem {xs : List (List UInt8)} {sep : List UInt8} {c : UInt8} (hs : c ∉ sep) (hx : ∀ x ∈ xs, c ∉ x) : c ∉ Lib.join xs sep := by
  cases xs with
  | nil => intro h; cases h
  | cons x r =>
    rw [Lib.join_cons]
    intro h
    rcases List.mem_append.1 h with h | h
    · exact hx x List.mem_cons_self h
    · obtain ⟨y, hy, hc⟩ := List.mem_flatten.1 h
      obtain ⟨z, hz, rfl⟩ := List.mem_map.1 hy
      rcases List.mem_append.1 hc with hc | hc
      · exact hs hc
      · exact hx z (List.mem_cons_of_mem _ hz) hc
theorem join_len {sep : List UInt8} (b : Nat) : ∀ {xs : List (List UInt8)}, (∀ x ∈ xs, x.length ≤ b) → (Lib.join xs sep).length ≤ xs.length * (b + sep.length)
  | [], _ => by simp [Lib.join_nil]
  | [x], h => by
    rw [Lib.join_one]
    have := h x List.mem_cons_self
    simp only [List.length_cons, List.length_nil]; omega
  | x :: y :: r, h => by
    have ih := join_len (sep := sep) b (xs := y :: r) (fun z hz => h z (List.mem_cons_of_mem _ hz))
    have h0 := h x List.mem_cons_self
    have e : (Lib.join (x :: y :: r) sep).length = x.length + (sep.length + (Lib.join (y :: r) sep).length) := by
      rw [Lib.join_cons, Lib.join_cons]
      simp only [Lib.joinTail, List.map_cons, List.flatten_cons, List.length_append]; omega
    rw [e]
    simp only [List.length_cons, Nat.add_mul, Nat.one_mul] at ih ⊢
    omega
theorem cnt_zero {t : ByteArray} (h : (10 : UInt8) ∉ t.data.toList) : cnt t = 0 := List.count_eq_zero.2 h

/-- Variables of no clocks: no line ends in them. -/
theorem decls_ans (l : List S46) (hl : l.length ≤ 20) (hc : ∀ d ∈ l, d.f3 = [] ∧ d.f1.size ≤ 100 ∧ (10 : UInt8) ∉ d.f1.data.toList) :
    Ans (fun k => show_decls.f k l) ⟨(Lib.join (l.map fun d => (d.f1 ++ (if d.f2 = 2 then (⟨#[58, 32, 98, 111, 111, 108]⟩ : ByteArray) else ⟨#[58, 32, 105, 110, 116]⟩)).data.toList) [59, 32]).toArray⟩ := by
  obtain ⟨tx, htx⟩ : ∃ tx : S46 → ByteArray, tx = fun d => d.f1 ++ (if d.f2 = 2 then (⟨#[58, 32, 98, 111, 111, 108]⟩ : ByteArray) else ⟨#[58, 32, 105, 110, 116]⟩) := ⟨_, rfl⟩
  have hlen : ∀ d ∈ l, (tx d).size ≤ 106 := fun d hd => by
    have := (hc d hd).2.1
    rw [htx]
    simp only [ByteArray.size_append]
    split
    · rw [show (⟨#[58, 32, 98, 111, 111, 108]⟩ : ByteArray).size = 6 from rfl]; omega
    · rw [show (⟨#[58, 32, 105, 110, 116]⟩ : ByteArray).size = 5 from rfl]; omega
  have hmap : (l.map fun d => (d.f1 ++ (if d.f2 = 2 then (⟨#[58, 32, 98, 111, 111, 108]⟩ : ByteArray) else ⟨#[58, 32, 105, 110, 116]⟩)).data.toList) = (l.map tx).map (·.data.toList) := by rw [htx, List.map_map]; rfl
  rw [hmap]
  have run := app_run (L := fun k acc i => show_decls.l0 k acc l l.length i) (n := l.length) (f := fun i => tx (l.getD i z46)) (r := ⟨(Lib.join ((l.map tx).map (·.data.toList)) [59, 32]).toArray⟩)
    (fun acc i hi ha next => by
      have hm := getD_mem l i z46 hi
      obtain ⟨h3, hs, _⟩ := hc _ hm
      have hd := decl_ans (l.getD i z46).f0 (l.getD i z46).f1 (l.getD i z46).f2 (by omega)
      have e : rd_T46 l (i : Int) = l.getD i z46 := rfl
      refine Ans.succ (fun k => by simp only [show_decls.l0, e, h3]; rw [if_pos (by omega), if_pos (by omega), if_pos (by omega), up i (by omega)]) ?_
      refine Ans.bind hd ?_
      refine Ans.ite_pos (by omega) ?_
      have e2 : tx (l.getD i z46) = (l.getD i z46).f1 ++ (if (l.getD i z46).f2 = 2 then (⟨#[58, 32, 98, 111, 111, 108]⟩ : ByteArray) else ⟨#[58, 32, 105, 110, 116]⟩) := by rw [htx]
      rw [e2] at next
      exact next)
    l.length 0 [] (by omega) rfl
  refine (run ?_).congr fun k => by unfold show_decls.f; rfl
  rw [List.nil_append, map_range_getD]
  refine Ans.succ (fun k => by simp only [show_decls.l0]; rw [if_neg (by omega)]) ?_
  refine Ans.bind (Ans.of_eq fun _ => ?_) (Ans.some _)
  unfold strings_Join.f
  have hjl := join_len (sep := [59, 32]) 106 (xs := (l.map tx).map (·.data.toList)) (fun x hx => by
    obtain ⟨t, ht, rfl⟩ := List.mem_map.1 hx
    obtain ⟨d, hd, rfl⟩ := List.mem_map.1 ht
    rw [len_eq]; exact hlen d hd)
  simp only [List.length_map, List.length_cons, List.length_nil] at hjl
  rw [if_pos ⟨by simp; omega, by show (Lib.join _ [59, 32]).length ≤ _; omega⟩]

/-- The equation of a number. -/
theorem eq_ans (p : Int) (i : Nat) (hi : i < 10) : Ans (fun k => show_Equation.f k p [⟨#[120]⟩] 1 0 i ⟨#[]⟩ [] ⟨#[]⟩ [] ⟨#[]⟩) (((⟨#[120]⟩ : ByteArray) ++ ⟨#[32, 61, 32]⟩) ++ dig i) := by
  unfold show_Equation.f
  have hj : strings_Join.f [⟨#[120]⟩] ⟨#[44, 32]⟩ = some ⟨#[120]⟩ := by
    unfold strings_Join.f
    simp only [List.map_cons, List.map_nil, Lib.join_one]
    rw [if_pos ⟨by decide, by decide⟩]
  refine Ans.bind (Ans.of_eq fun _ => hj) ?_
  refine Ans.ite_pos (by decide) (Ans.ite_pos (by rw [Go.ByteArray.toList_eq]) ?_)
  have h := sh_int 0 i ⟨#[]⟩ [] (by omega) (by omega)
  rw [itoa_dig i hi] at h
  refine Ans.bind h ?_
  exact Ans.ite_pos (by rw [ByteArray.size_append, show (dig i).size = 1 from rfl, show (⟨#[120]⟩ : ByteArray).size = 1 from rfl, show (⟨#[32, 61, 32]⟩ : ByteArray).size = 3 from rfl]; omega) (Ans.some _)

/-- The node's beginning. -/
def hd : List UInt8 := [110, 111, 100, 101, 32, 102, 40, 41, 32, 114, 101, 116, 117, 114, 110, 115, 32, 40, 120, 58, 32, 105, 110, 116, 41]
/-- It begins so; n lines end; no more than s bytes behind. -/
def Tx (x : ByteArray) (n s : Nat) : Prop := ∃ rest, x.data.toList = hd ++ rest ∧ rest.count 10 = n ∧ rest.length ≤ s
theorem Tx.append {x : ByteArray} {n s : Nat} (h : Tx x n s) (y : ByteArray) : Tx (x ++ y) (n + cnt y) (s + y.size) := by
  obtain ⟨rest, h1, h2, h3⟩ := h
  refine ⟨rest ++ y.data.toList, by rw [data_append', h1, List.append_assoc], by rw [List.count_append, h2]; rfl, ?_⟩
  rw [List.length_append, len_eq]; omega
theorem Tx.size {x : ByteArray} {n s : Nat} (h : Tx x n s) : x.size ≤ 25 + s ∧ 25 ≤ x.size := by
  obtain ⟨rest, h1, h2, h3⟩ := h
  have := congrArg List.length h1
  rw [len_eq, List.length_append, show hd.length = 25 from rfl] at this
  omega
theorem Tx.cnt {x : ByteArray} {n s : Nat} (h : Tx x n s) : cnt x = n := by
  obtain ⟨rest, h1, h2, h3⟩ := h
  unfold TShowLinesA.cnt
  rw [h1, List.count_append, show hd.count 10 = 0 from rfl, h2, Nat.zero_add]

def eqn (i : Nat) : S49 := ⟨0, [⟨#[120]⟩], ⟨1, 0, i, ⟨#[]⟩, []⟩, ⟨#[]⟩, [], ⟨#[]⟩⟩
def eqns (n : Nat) : List S49 := (List.range' 0 n).map eqn
theorem eqns_length (n : Nat) : (eqns n).length = n := by simp [eqns]
theorem eqns_get (n i : Nat) (h : i < n) : (eqns n).getD i z49 = eqn i := by
  unfold eqns
  rw [List.getD_eq_getElem?_getD, List.getElem?_map, List.getElem?_eq_getElem (by simpa using h)]
  simp
theorem eqns_succ (n : Nat) : eqns (n + 1) = eqns n ++ [eqn n] := by
  unfold eqns
  rw [List.range'_1_concat]; simp

theorem node_l0 (n : Nat) (hn : n < 10) (d : Nat) : ∀ (i : Nat) (x : ByteArray) (c s : Nat), i + d = n → Tx x c s → s + d * 9 ≤ 100000 → ∃ y, Ans (fun k => show_Node.l0 k x (eqns n) n i) y ∧ Tx y (c + d + 1) (s + d * 9 + 4) := by
  induction d with
  | zero =>
    intro i x c s hi h hs
    have hz := h.size
    refine ⟨x ++ ⟨#[116, 101, 108, 10]⟩, Ans.succ (fun k => by simp only [show_Node.l0]; rw [if_neg (by omega), if_pos (by omega)]) (Ans.some _), ?_⟩
    have := h.append ⟨#[116, 101, 108, 10]⟩
    exact this
  | succ d ih =>
    intro i x c s hi h hs
    have hz := h.size
    have e : rd_T49 (eqns n) (i : Int) = eqn i := eqns_get n i (by omega)
    have st : ((((⟨#[120]⟩ : ByteArray) ++ ⟨#[32, 61, 32]⟩) ++ dig i)).size = 5 := by rw [ByteArray.size_append, ByteArray.size_append]; rfl
    have st2 : (((⟨#[32, 32]⟩ : ByteArray) ++ ((((⟨#[120]⟩ : ByteArray) ++ ⟨#[32, 61, 32]⟩) ++ dig i))) ++ ⟨#[59, 10]⟩).size = 9 := by rw [ByteArray.size_append, ByteArray.size_append, st]; rfl
    have ct : TShowLinesA.cnt (((⟨#[32, 32]⟩ : ByteArray) ++ ((((⟨#[120]⟩ : ByteArray) ++ ⟨#[32, 61, 32]⟩) ++ dig i))) ++ ⟨#[59, 10]⟩) = 1 := by
      rw [cnt_append, cnt_append, cnt_append, cnt_append, dig_cnt ⟨i, by omega⟩]; rfl
    have happ := h.append (((⟨#[32, 32]⟩ : ByteArray) ++ ((((⟨#[120]⟩ : ByteArray) ++ ⟨#[32, 61, 32]⟩) ++ dig i))) ++ ⟨#[59, 10]⟩)
    rw [ct, st2] at happ
    obtain ⟨y, hy, hT⟩ := ih (i + 1) _ _ _ (by omega) happ (by omega)
    refine ⟨y, ?_, by
      obtain ⟨rest, r1, r2, r3⟩ := hT
      exact ⟨rest, r1, by omega, by omega⟩⟩
    refine Ans.succ (fun k => by simp only [show_Node.l0, e]; rw [if_pos (by omega), if_pos (by omega), if_pos (by rw [eqns_length]; omega), up i (by omega)]) ?_
    refine Ans.bind (eq_ans 0 i (by omega)) ?_
    refine Ans.ite_pos (by rw [st]; omega) (Ans.ite_pos (by rw [ByteArray.size_append, st, show (⟨#[32, 32]⟩ : ByteArray).size = 2 from rfl]; omega) (Ans.ite_pos (by rw [st2]; omega) hy))

def loc (i : Nat) : S46 := ⟨0, (⟨#[121]⟩ : ByteArray) ++ dig i, 2, []⟩
def locs (n : Nat) : List S46 := (List.range' 0 n).map loc
theorem locs_length (n : Nat) : (locs n).length = n := by simp [locs]
theorem locs_succ (n : Nat) : locs (n + 1) = locs n ++ [loc n] := by
  unfold locs
  rw [List.range'_1_concat]; simp
theorem dig_mem : ∀ i : Fin 10, (10 : UInt8) ∉ ((⟨#[121]⟩ : ByteArray) ++ dig i.1).data.toList := by decide

theorem node_ans (v n : Nat) (hv : v < 10) (hn : n < 10) : ∃ y, Ans (fun k => show_Node.f k ⟨#[102]⟩ [] [⟨0, ⟨#[120]⟩, 1, []⟩] (locs v) (eqns n)) y ∧ Tx y (3 + n + (if v = 0 then 0 else 1)) 2000 := by
  have h0 := decls_ans [] (by decide) (fun d hd => by cases hd)
  have h1 := decls_ans [⟨0, ⟨#[120]⟩, 1, []⟩] (by decide) (fun d hd => by rw [List.mem_singleton.1 hd]; exact ⟨rfl, by decide, by decide⟩)
  rw [show Lib.join (([] : List S46).map fun d => (d.f1 ++ (if d.f2 = 2 then (⟨#[58, 32, 98, 111, 111, 108]⟩ : ByteArray) else ⟨#[58, 32, 105, 110, 116]⟩)).data.toList) [59, 32] = [] from rfl] at h0
  simp only [List.map_cons, List.map_nil, Lib.join_one] at h1
  rw [show (⟨((⟨#[120]⟩ : ByteArray) ++ (if (1 : Int) = 2 then (⟨#[58, 32, 98, 111, 111, 108]⟩ : ByteArray) else ⟨#[58, 32, 105, 110, 116]⟩)).data.toList.toArray⟩ : ByteArray) = ⟨#[120, 58, 32, 105, 110, 116]⟩ from rfl] at h1
  rw [show (⟨([] : List UInt8).toArray⟩ : ByteArray) = ⟨#[]⟩ from rfl] at h0
  obtain ⟨x3, hx3⟩ : ∃ x3 : ByteArray, x3 = ((((((⟨#[110, 111, 100, 101, 32]⟩ : ByteArray) ++ ⟨#[102]⟩) ++ (⟨#[40]⟩ : ByteArray)) ++ ⟨#[]⟩) ++ (⟨#[41, 32, 114, 101, 116, 117, 114, 110, 115, 32, 40]⟩ : ByteArray)) ++ ⟨#[120, 58, 32, 105, 110, 116]⟩) ++ (⟨#[41, 59, 10]⟩ : ByteArray) := ⟨_, rfl⟩
  have T3 : Tx x3 1 2 := ⟨[59, 10], by rw [hx3]; rfl, rfl, by decide⟩
  have tail : ∀ (x : ByteArray) (c s : Nat), Tx x c s → s ≤ 1800 → ∃ y, Ans (fun k => show_Node.j0 k x ⟨#[102]⟩ [] [⟨0, ⟨#[120]⟩, 1, []⟩] (locs v) (eqns n)) y ∧ Tx y (c + n + 2) (s + n * 9 + 8) := by
    intro x c s hT hs
    have hz := hT.size
    obtain ⟨y, hy, hTy⟩ := node_l0 n hn n 0 _ _ _ (by omega) (hT.append ⟨#[108, 101, 116, 10]⟩) (by show s + 4 + n * 9 ≤ _; omega)
    refine ⟨y, Ans.succ (fun k => by simp only [show_Node.j0, eqns_length]; rw [if_pos (by omega)]; rfl) hy, ?_⟩
    obtain ⟨rest, r1, r2, r3⟩ := hTy
    have e1 : TShowLinesA.cnt (⟨#[108, 101, 116, 10]⟩ : ByteArray) = 1 := rfl
    have e2 : (⟨#[108, 101, 116, 10]⟩ : ByteArray).size = 4 := rfl
    exact ⟨rest, r1, by omega, by omega⟩
  have pre : ∀ {y : ByteArray} (G : Nat → Option ByteArray), Ans G y → (∀ k, (if (if v = 0 then False else True) then G k else G k) = G k) → True := fun _ _ _ => trivial
  by_cases hv0 : v = 0
  · subst hv0
    obtain ⟨y, hy, hT⟩ := tail x3 1 2 T3 (by decide)
    refine ⟨y, ?_, by
      obtain ⟨rest, r1, r2, r3⟩ := hT
      exact ⟨rest, r1, by rw [if_pos rfl]; omega, by omega⟩⟩
    unfold show_Node.f
    refine Ans.ite_pos (by decide) (Ans.ite_pos (by decide) ?_)
    refine Ans.bind h0 ?_
    refine Ans.ite_pos (by decide) (Ans.ite_pos (by decide) ?_)
    refine Ans.bind h1 ?_
    refine Ans.ite_pos (by decide) (Ans.ite_pos (by decide) (Ans.ite_neg (by decide) ?_))
    rw [← hx3]
    exact hy
  · have h2 := decls_ans (locs v) (by rw [locs_length]; omega) (fun d hd => by
      obtain ⟨i, hi, rfl⟩ := List.mem_map.1 hd
      have : i < 10 := by have := List.mem_range'_1.1 hi; omega
      exact ⟨rfl, by show ((⟨#[121]⟩ : ByteArray) ++ dig i).size ≤ 100; rw [ByteArray.size_append]; exact (by decide : 2 ≤ 100), dig_mem ⟨i, this⟩⟩)
    obtain ⟨t, ht⟩ : ∃ t : ByteArray, t = ⟨(Lib.join ((locs v).map fun d => (d.f1 ++ (if d.f2 = 2 then (⟨#[58, 32, 98, 111, 111, 108]⟩ : ByteArray) else ⟨#[58, 32, 105, 110, 116]⟩)).data.toList) [59, 32]).toArray⟩ := ⟨_, rfl⟩
    rw [← ht] at h2
    have hts : t.size ≤ 1000 := by
      have := join_len (sep := [59, 32]) 20 (xs := (locs v).map fun d => (d.f1 ++ (if d.f2 = 2 then (⟨#[58, 32, 98, 111, 111, 108]⟩ : ByteArray) else ⟨#[58, 32, 105, 110, 116]⟩)).data.toList) (fun x hx => by
        obtain ⟨d, hd, rfl⟩ := List.mem_map.1 hx
        obtain ⟨i, hi, rfl⟩ := List.mem_map.1 hd
        rw [len_eq, ByteArray.size_append]
        show ((⟨#[121]⟩ : ByteArray) ++ dig i).size + (⟨#[58, 32, 98, 111, 111, 108]⟩ : ByteArray).size ≤ 20
        rw [ByteArray.size_append]; exact (by decide : 8 ≤ 20))
      rw [List.length_map, locs_length] at this
      rw [ht]
      show (Lib.join _ [59, 32]).toArray.size ≤ 1000
      rw [List.size_toArray]
      simp only [List.length_cons, List.length_nil] at this
      omega
    have htc : TShowLinesA.cnt t = 0 := cnt_zero (by
      rw [ht]
      refine join_mem (by decide) (fun x hx => ?_)
      obtain ⟨d, hd, rfl⟩ := List.mem_map.1 hx
      obtain ⟨i, hi, rfl⟩ := List.mem_map.1 hd
      have : i < 10 := by have := List.mem_range'_1.1 hi; omega
      rw [data_append']
      intro h
      rcases List.mem_append.1 h with h | h
      · exact dig_mem ⟨i, this⟩ h
      · revert h
        show (10 : UInt8) ∉ (⟨#[58, 32, 98, 111, 111, 108]⟩ : ByteArray).data.toList
        decide)
    have s4 : (⟨#[118, 97, 114, 32]⟩ : ByteArray).size = 4 := rfl
    have sv : (((⟨#[118, 97, 114, 32]⟩ : ByteArray) ++ t) ++ (⟨#[59, 10]⟩ : ByteArray)).size ≤ 1010 := by
      rw [ByteArray.size_append, ByteArray.size_append, s4, show (⟨#[59, 10]⟩ : ByteArray).size = 2 from rfl]; omega
    have cv : TShowLinesA.cnt (((⟨#[118, 97, 114, 32]⟩ : ByteArray) ++ t) ++ (⟨#[59, 10]⟩ : ByteArray)) = 1 := by rw [cnt_append, cnt_append, htc]; rfl
    have T4 := T3.append (((⟨#[118, 97, 114, 32]⟩ : ByteArray) ++ t) ++ (⟨#[59, 10]⟩ : ByteArray))
    have hx3s := T3.size
    obtain ⟨y, hy, hT⟩ := tail _ _ _ T4 (by omega)
    refine ⟨y, ?_, by
      obtain ⟨rest, r1, r2, r3⟩ := hT
      exact ⟨rest, r1, by rw [if_neg hv0]; omega, by omega⟩⟩
    unfold show_Node.f
    refine Ans.ite_pos (by decide) (Ans.ite_pos (by decide) ?_)
    refine Ans.bind h0 ?_
    refine Ans.ite_pos (by decide) (Ans.ite_pos (by decide) ?_)
    refine Ans.bind h1 ?_
    refine Ans.ite_pos (by decide) (Ans.ite_pos (by decide) (Ans.ite_pos (by rw [locs_length]; omega) ?_))
    refine Ans.bind h2 ?_
    rw [← hx3]
    refine Ans.ite_pos (by omega) (Ans.ite_pos (by rw [ByteArray.size_append, s4]; omega) (Ans.ite_pos (by omega) hy))

theorem lines_l2 (v n : Nat) (hv : v < 10) (hn : n < 10) (t : ByteArray) (hT : Tx t (3 + n + (if v = 0 then 0 else 1)) 2000) (d : Nat) : ∀ (i c : Nat), i + d = t.size → c ≤ i → c + (t.data.toList.drop i).count 10 = cnt t →
    Ans (fun k => pendulumlaw8_ShowLines.l2 k v n true t c i) true := by
  have hz := hT.size
  have hcn := hT.cnt
  have hex : (t.extract 0 25).toList = hd := by
    obtain ⟨rest, r1, _, _⟩ := hT
    rw [Go.ByteArray.toList_eq, ByteArray.data_extract, Array.toList_extract, r1]
    show List.take 25 (List.drop 0 (hd ++ rest)) = hd
    rw [List.drop_zero, show (25 : Nat) = hd.length from rfl, List.take_left']; rfl
  induction d with
  | zero =>
    intro i c hi hc hcc
    rw [List.drop_of_length_le (by rw [len_eq]; omega), List.count_nil] at hcc
    have w1 : wrap64 (3 + (n : Int)) = 3 + n := wrap64_id (by omega) (by omega)
    have w2 : wrap64 (3 + (n : Int) + 1) = 3 + n + 1 := wrap64_id (by omega) (by omega)
    refine Ans.succ (fun k => by simp only [pendulumlaw8_ShowLines.l2, w1, w2]; rw [if_neg (by omega)]) ?_
    refine Ans.ite (fun h => ?_) (fun h => ?_)
    · rw [if_neg (by omega)] at hcn
      refine Ans.ite_pos trivial (Ans.ite_pos (by omega) (Ans.ite_pos (by omega) (Ans.ite_pos (by omega) (Ans.of_eq fun _ => ?_))))
      rw [hex]; rfl
    · rw [if_pos (by omega)] at hcn
      refine Ans.ite_pos trivial (Ans.ite_pos (by omega) (Ans.ite_pos (by omega) (Ans.ite_pos (by omega) (Ans.of_eq fun _ => ?_))))
      rw [hex]; rfl
  | succ d ih =>
    intro i c hi hc hcc
    have hl := len_eq t
    refine Ans.succ (fun k => by simp only [pendulumlaw8_ShowLines.l2]; rw [if_pos (by omega), if_pos (by omega), bt_get t i (by omega), up i (by omega), up c (by omega)]) ?_
    rw [getD_drop _ i 0 (by omega), List.count_cons] at hcc
    refine Ans.ite (fun h => ?_) (fun h => ?_)
    · have e : t.data.toList.getD i 0 = 10 := UInt8.toNat_inj.1 (by show _ = 10; omega)
      refine ih (i + 1) (c + 1) (by omega) (by omega) ?_
      rw [e] at hcc
      simp at hcc
      omega
    · have e : ¬ t.data.toList.getD i 0 = 10 := fun e => h (by rw [e]; rfl)
      refine ih (i + 1) c (by omega) (by omega) ?_
      rwa [show (if (t.data.toList.getD i 0 == 10) = true then 1 else 0) = 0 by rw [if_neg (by simpa using e)], Nat.add_zero] at hcc

theorem lines_l1 (v n : Nat) (hv : v < 10) (hn : n < 10) (d : Nat) : ∀ i : Nat, i + d = n → Ans (fun k => pendulumlaw8_ShowLines.l1 k v n true i ⟨#[102]⟩ [⟨0, ⟨#[120]⟩, 1, []⟩] (locs v) (eqns i)) true := by
  induction d with
  | zero =>
    intro i hi
    obtain rfl : i = n := by omega
    obtain ⟨y, hy, hT⟩ := node_ans v i hv hn
    refine Ans.succ (fun k => by simp only [pendulumlaw8_ShowLines.l1]; rw [if_neg (by omega)]) ?_
    refine Ans.bind hy ?_
    exact lines_l2 v i hv hn y hT y.size 0 0 (by omega) (by omega) (by rw [List.drop_zero, Nat.zero_add]; rfl)
  | succ d ih =>
    intro i hi
    have := ih (i + 1) (by omega)
    rw [eqns_succ] at this
    exact Ans.succ (fun k => by simp only [pendulumlaw8_ShowLines.l1]; rw [if_pos (by omega), if_pos (by rw [eqns_length]; omega), up i (by omega)]; rfl) this
theorem lines_l0 (v n : Nat) (hv : v < 10) (hn : n < 10) (d : Nat) : ∀ i : Nat, i + d = v → Ans (fun k => pendulumlaw8_ShowLines.l0 k v n true i ⟨#[102]⟩ [⟨0, ⟨#[120]⟩, 1, []⟩] (locs i)) true := by
  induction d with
  | zero =>
    intro i hi
    obtain rfl : i = v := by omega
    exact Ans.succ (fun k => by simp only [pendulumlaw8_ShowLines.l0]; rw [if_neg (by omega)]; rfl) (lines_l1 i n hv hn n 0 (by omega))
  | succ d ih =>
    intro i hi
    have := ih (i + 1) (by omega)
    rw [locs_succ] at this
    have hnum : pendulumworld_Num.f (i : Int) = some (dig i) := by
      unfold pendulumworld_Num.f strconv_Itoa.f
      rw [if_pos ⟨by omega, by omega⟩, itoa_dig i (by omega)]; rfl
    refine Ans.succ (fun k => by simp only [pendulumlaw8_ShowLines.l0, hnum, Option.bind_some]; rw [if_pos (by omega), if_pos (by show 1 + 1 ≤ _; omega), if_pos (by rw [locs_length]; omega), up i (by omega)]; rfl) this

theorem ShowLines : pendulumlaw8_ShowLines.Pure := by
  intro a b _ _
  refine Ans.exists ?_
  unfold pendulumlaw8_ShowLines.f
  refine Ans.bind first_ans ?_
  refine Ans.ite_pos rfl ?_
  obtain ⟨v, hv, hv0, hv1⟩ := number_f a 9 (by decide) (by decide)
  obtain ⟨n, hn, hn0, hn1⟩ := number_f b 9 (by decide) (by decide)
  refine Ans.bind (Ans.of_eq fun _ => hv) ?_
  refine Ans.bind (Ans.of_eq fun _ => hn) ?_
  obtain ⟨v, rfl⟩ := Int.eq_ofNat_of_zero_le hv0
  obtain ⟨n, rfl⟩ := Int.eq_ofNat_of_zero_le hn0
  rw [show wrap64 ((n : Int) + 1) = ((n + 1 : Nat) : Int) from up n (by omega)]
  exact lines_l0 v (n + 1) (by omega) (by omega) v 0 (by omega)
end Go.Proofs.YtgmnklfbmbahcaaDoor.TShowLinesA
namespace Go.Proofs.YtgmnklfbmbahcaaDoor.Pure
theorem ShowLines : KTShowLines.pendulumlaw8_ShowLines.Pure := TShowLinesA.ShowLines
end Go.Proofs.YtgmnklfbmbahcaaDoor.Pure
