/- DepsTurned, in plain words: what a graph answers hangs on what each name is found to use, alone. By this session. -/
import Derived.Test.YtnajjhjbkanigaaDoorDepsTurnedA
namespace Go.Proofs.YtnajjhjbkanigaaDoor.Pure
open Go Go.Proofs.YtnajjhjbkanigaaDoor.Cm
open Classical
set_option linter.unusedVariables false
set_option linter.unusedSimpArgs false
set_option maxRecDepth 100000
abbrev kst : ByteArray → ByteArray → Bool := keyEq (.str : Ty)
abbrev DM := List (ByteArray × Int)
/-- A graph as it is asked: few names, each using few. -/
structure Gb (g : ByteArray → Option SL) (Ds : SL) : Prop where
  few : ∀ s l, g s = some l → l.length ≤ 30
  dom : ∀ s, (g s).isSome = true ↔ s ∈ Ds
  len : Ds.length ≤ 14
  sz : ∀ s ∈ Ds, s.size ≤ 1099511627776
  nd : Ds.Nodup
/-- A map that is found to be so. -/
structure Al (g : ByteArray → Option SL) (m : GM) : Prop where
  at_ : ∀ s, mfind kst s m = g s
  nd : (keys m).Nodup
variable {g : ByteArray → Option SL} {Ds : SL}
theorem Al.get {m : GM} (h : Al g m) (s : ByteArray) : mget m s = (g s).getD [] := by unfold mget; rw [show mfind (keyEq (.str : Ty)) s m = g s from h.at_ s]
theorem Gb.get (G : Gb g Ds) (s : ByteArray) : ((g s).getD []).length ≤ 30 := by
  cases h : g s with
  | none => simp
  | some l => exact G.few s l h
/-! ### what a root reaches -/
noncomputable def rem (Ds : SL) (met : DM) : Nat := (Ds.filter fun s => decide (s ∉ keys met)).length
structure RI (Ds : SL) (met : DM) : Prop where
  nd : (keys met).Nodup
  val : ∀ s ∈ keys met, mfind kst s met = some 1
  sub : ∀ s ∈ keys met, s ∈ Ds
theorem RI.add {met : DM} (h : RI Ds met) {s : ByteArray} (hs : s ∈ Ds) (hn : s ∉ keys met) : RI Ds (mset kst s 1 met) := by
  have e : mset kst s 1 met = met ++ [(s, 1)] := mset_new hn
  refine ⟨?_, fun t ht => ?_, fun t ht => ?_⟩
  · rw [e, keys, List.map_append, List.nodup_append]
    exact ⟨h.nd, by simp, fun a ha b hb e2 => by simp at hb; subst hb; subst e2; exact hn ha⟩
  · rw [mfind_mset]
    split
    · rfl
    · rename_i hne
      rw [e, keys, List.map_append, List.mem_append] at ht
      rcases ht with ht | ht
      · exact h.val t ht
      · simp at ht; exact absurd ht hne
  · rw [e, keys, List.map_append, List.mem_append] at ht
    rcases ht with ht | ht
    · exact h.sub t ht
    · simp at ht; rw [ht]; exact hs
theorem rem_add {met : DM} {s : ByteArray} (hs : s ∈ Ds) (hn : s ∉ keys met) : rem Ds (mset kst s 1 met) < rem Ds met := by
  have e : mset kst s 1 met = met ++ [(s, 1)] := mset_new hn
  refine cnt_lt (p := fun t => decide (t ∉ keys met)) (q := fun t => decide (t ∉ keys (mset kst s 1 met))) (fun x hx => ?_) (x := s) ?_ ?_ hs
  · have hx := of_decide_eq_true hx
    refine decide_eq_true fun h => hx ?_
    rw [e, keys, List.map_append, List.mem_append]
    exact .inl h
  · exact decide_eq_true hn
  · refine decide_eq_false fun h => h ?_
    rw [e, keys, List.map_append, List.mem_append]
    exact .inr (by simp)
def reachR (m : GM) : Option DM → Option (OutT deps_Graph_reach_l3_o)
  | some met => some (.inl (((), ()), (((), ()), m, met, ())))
  | none => some (.inr (.inl (((), ErrV.sent 116, ()), (((), ()), m, ()))))
theorem reach_loop {n : Nat} (G : Gb g Ds) : ∀ (f k : Nat) (met : DM) (todo : SL), rem Ds met * 31 + todo.length ≤ f → f < k → f < 100000 → RI Ds met → ∃ r : Option DM, (∀ x, r = some x → RI Ds x) ∧ ∀ m, Al g m → deps_Graph_reach_l3 n k (((), (), (), ()), (((), ()), m, met, todo, ())) = reachR m r := by
  intro f
  induction f with
  | zero =>
    intro k met todo hf hk hF hI
    obtain ⟨k, rfl⟩ : ∃ q, k = q + 1 := ⟨k - 1, by omega⟩
    obtain rfl : todo = [] := List.eq_nil_of_length_eq_zero (by omega)
    refine ⟨some met, fun x hx => by cases hx; exact hI, fun m hm => ?_⟩
    rw [deps_Graph_reach_l3, if_neg (by simp)]
    rfl
  | succ f ih =>
    intro k met todo hf hk hF hI
    obtain ⟨k, rfl⟩ : ∃ q, k = q + 1 := ⟨k - 1, by omega⟩
    cases todo with
    | nil =>
      refine ⟨some met, fun x hx => by cases hx; exact hI, fun m hm => ?_⟩
      rw [deps_Graph_reach_l3, if_neg (by simp)]
      rfl
    | cons s rest =>
      simp only [List.length_cons] at hf
      have hlen : ((s :: rest).length : Int) = ((rest.length + 1 : Nat) : Int) := rfl
      have hr0 : rdT (.str : Ty) (s :: rest) 0 = s := rfl
      have hc1 : cutL (s :: rest) 1 ((s :: rest).length : Int) = rest := cut1 s rest
      have step : ∀ m, Al g m → deps_Graph_reach_l3 n (k + 1) (((), (), (), ()), (((), ()), m, met, s :: rest, ())) =
          (if !((g s).isSome) then some (.inr (.inl (((), ErrV.sent 116, ()), (((), ()), m, ()))))
           else if decide ((mfind kst s met).getD 0 > 0) = true then deps_Graph_reach_l3 n k (((), (), (), ()), (((), ()), m, met, rest, ()))
           else if (rest.length + ((g s).getD []).length) * 16 ≤ 140737488355328 then deps_Graph_reach_l3 n k (((), (), (), ()), (((), ()), m, mset kst s 1 met, rest ++ (g s).getD [], ())) else none) := fun m hm => by
        rw [deps_Graph_reach_l3, if_pos (decide_eq_true (show ((s :: rest).length : Int) > 0 by omega)), if_pos (show 0 ≤ (0 : Int) ∧ (0 : Int) < ((s :: rest).length : Int) from ⟨by omega, by omega⟩), if_pos (show 0 ≤ (1 : Int) ∧ (1 : Int) ≤ ((s :: rest).length : Int) from ⟨by omega, by omega⟩)]
        simp only []
        rw [hr0, hc1, show mfind (keyEq (.str : Ty)) s m = g s from hm.at_ s]
      cases hg : g s with
      | none =>
        refine ⟨none, (fun x hx => by cases hx), fun m hm => ?_⟩
        rw [step m hm, hg]
        rfl
      | some v =>
        have hv := G.few s v hg
        have hsD : s ∈ Ds := (G.dom s).1 (by rw [hg]; rfl)
        by_cases hs : s ∈ keys met
        · obtain ⟨r, h1, h2⟩ := ih k met rest (by omega) (by omega) (by omega) hI
          refine ⟨r, h1, fun m hm => ?_⟩
          rw [step m hm, hg, if_neg (by simp), hI.val s hs, if_pos (by decide)]
          exact h2 m hm
        · have h3 := rem_add hsD hs
          have h4 : rem Ds (mset kst s 1 met) * 31 + 31 ≤ rem Ds met * 31 := by omega
          obtain ⟨r, h1, h2⟩ := ih k (mset kst s 1 met) (rest ++ v) (by rw [List.length_append]; omega) (by omega) (by omega) (hI.add hsD hs)
          refine ⟨r, h1, fun m hm => ?_⟩
          rw [step m hm, hg, if_neg (by simp), show mfind kst s met = none from mfind_out hs, if_neg (by decide), if_pos (by show (rest.length + v.length) * 16 ≤ _; omega)]
          exact h2 m hm
def reachA (m : GM) : Option SL → Option (OutsT deps_Graph_reach_outs)
  | some l => some (((((), ()), (ErrV.nil, ()), ()), ()), (((), ()), m, l, ()))
  | none => some (((((), ()), (ErrV.sent 116, ()), ()), ()), (((), ()), m, [], ()))
theorem reach_at {n : Nat} (hn : 1000 < n) (G : Gb g Ds) (root : ByteArray) : ∃ r : Option SL, (∀ l, r = some l → l.length ≤ 14) ∧ ∀ m, Al g m → deps_Graph_reach n (((), root, ()), (((), ()), m, ())) = reachA m r := by
  obtain ⟨n, rfl⟩ : ∃ q, n = q + 2 := ⟨n - 2, by omega⟩
  have hl := G.len
  have hrem : rem Ds [] ≤ Ds.length := List.length_filter_le _ _
  obtain ⟨r, h1, h2⟩ := reach_loop (n := n + 1) G 500 (n + 1) [] [root] (by simp only [List.length_cons, List.length_nil]; omega) (by omega) (by omega) ⟨.nil, (fun s hs => by cases hs), (fun s hs => by cases hs)⟩
  cases r with
  | none =>
    refine ⟨none, (fun l hl => by cases hl), fun m hm => ?_⟩
    rw [deps_Graph_reach, h2 m hm]
    rfl
  | some met =>
    have hI := h1 met rfl
    have hk : (keys met).length ≤ 14 := Nat.le_trans (nodup_len hI.nd hI.sub) hl
    have e : slices_Sorted_111 (n + 1) (((), ()), (((), ()), met, ())) = some (((), ()), (((), ()), met, sortS (keys met), ())) := by
      show sortedSSem _ _ _ false _ _ = _
      unfold sortedSSem
      rw [if_pos (show wfKeysS (V := Int) met = true from wf_of fun s hs => G.sz s (hI.sub s hs)), if_pos (show List.length met ≤ 1099511627776 by simp only [keys, List.length_map] at hk; omega)]
    refine ⟨some (sortS (keys met)), fun l hl => by cases hl; rw [(sortS_perm _).length_eq]; exact hk, fun m hm => ?_⟩
    rw [deps_Graph_reach, h2 m hm]
    simp only [reachR, maps_Keys_map_string_int_string_int, e]
    rfl
/-! ### in order -/
noncomputable def readyG (g : ByteArray → Option SL) (out : SL) (s : ByteArray) : Bool := decide (s ∉ out) && decide (∀ u ∈ (g s).getD [], u ∈ out)
theorem ready_eq {m : GM} (h : Al g m) (out : SL) (s : ByteArray) : ready m out s = readyG g out s := by
  unfold ready readyG
  rw [h.get s]
theorem indexF_at {n : Nat} (G : Gb g Ds) {names out : SL} (hl : names.length ≤ 14) (ho : out.length ≤ 14) (hn : 100 < n) (hN : n < 4000000000000000000) :
    ∃ r : Option Nat, (∀ j, r = some j → j < names.length) ∧ ∀ m, Al g m → slices_IndexFunc_string_string_3 n ((names, (), ()), (((), ()), ((), ()), out, ((), ()), m, ())) = some (((match r with | some j => (j : Int) | none => -1), ()), (((), ()), ((), ()), out, ((), ()), m, ())) := by
  obtain ⟨n, rfl⟩ : ∃ q, n = q + 1 := ⟨n - 1, by omega⟩
  have main : ∀ d i k, i + d = names.length → d < k → ∃ r : Option Nat, (∀ j, r = some j → j < names.length) ∧ ∀ m, Al g m → slices_IndexFunc_string_string_3_l2 n k ((names, (), (names.length : Int), (i : Int), ()), (((), ()), ((), ()), out, ((), ()), m, ())) = match r with | some j => some (.inr (.inl (((j : Int), ()), (((), ()), ((), ()), out, ((), ()), m, ())))) | none => some (.inl ((), (((), ()), ((), ()), out, ((), ()), m, ()))) := by
    intro d
    induction d with
    | zero =>
      intro i k hi hk
      obtain ⟨k, rfl⟩ : ∃ q, k = q + 1 := ⟨k - 1, by omega⟩
      refine ⟨none, (fun j hj => by cases hj), fun m hm => ?_⟩
      rw [slices_IndexFunc_string_string_3_l2, if_neg (by simp; omega)]
    | succ d ih =>
      intro i k hi hk
      obtain ⟨k, rfl⟩ : ∃ q, k = q + 1 := ⟨k - 1, by omega⟩
      have hf := G.get (List.getD names i (Ty.dflt .str))
      have step : ∀ m, Al g m → slices_IndexFunc_string_string_3_l2 n (k + 1) ((names, (), (names.length : Int), (i : Int), ()), (((), ()), ((), ()), out, ((), ()), m, ())) = if readyG g out (List.getD names i (Ty.dflt .str)) = true then some (.inr (.inl (((i : Int), ()), (((), ()), ((), ()), out, ((), ()), m, ())))) else slices_IndexFunc_string_string_3_l2 n k ((names, (), (names.length : Int), ((i + 1 : Nat) : Int), ()), (((), ()), ((), ()), out, ((), ()), m, ())) := fun m hm => by
        rw [slices_IndexFunc_string_string_3_l2, if_pos (decide_eq_true (show (i : Int) < (names.length : Int) by omega)), if_pos (show (0 : Int) ≤ (i : Int) ∧ (i : Int) < (names.length : Int) by omega), rdT_nat, all1_at (n := n) (m := m) (out := out) (List.getD names i (Ty.dflt .str)) (by rw [hm.get]; omega) (by omega), ready_eq hm, w64_up i (by omega)]
      by_cases hr : readyG g out (List.getD names i (Ty.dflt .str)) = true
      · refine ⟨some i, fun j hj => by cases hj; omega, fun m hm => ?_⟩
        rw [step m hm, if_pos hr]
      · obtain ⟨r, h1, h2⟩ := ih (i + 1) k (by omega) (by omega)
        refine ⟨r, h1, fun m hm => ?_⟩
        rw [step m hm, if_neg hr]
        exact h2 m hm
  obtain ⟨r, h1, h2⟩ := main names.length 0 n (by omega) (by omega)
  refine ⟨r, h1, fun m hm => ?_⟩
  rw [slices_IndexFunc_string_string_3, show slices_IndexFunc_string_string_3_l2 n n ((names, (), (names.length : Int), 0, ()), (((), ()), ((), ()), out, ((), ()), m, ())) = _ from h2 m hm]
  cases r <;> rfl
theorem all_loop {n : Nat} (G : Gb g Ds) {names : SL} (hl : names.length ≤ 14) (hn : 100 < n) (hN : n < 4000000000000000000) : ∀ (d k : Nat) (out : SL), out.length + d = names.length → d < k → ∃ r : Option SL, (∀ l, r = some l → l.length ≤ 14) ∧ ∀ m, Al g m → deps_Graph_All_l5 n k (((), names, (), ()), (((), ()), m, ((), ()), ((), ()), out, ())) = match r with | some l => some (.inl (((), ()), (((), ()), m, ((), ()), l, ()))) | none => some (.inr (.inl (((), ErrV.sent 113, ()), (((), ()), m, ())))) := by
  intro d
  induction d with
  | zero =>
    intro k out hd hk
    obtain ⟨k, rfl⟩ : ∃ q, k = q + 1 := ⟨k - 1, by omega⟩
    refine ⟨some out, fun l hl => by cases hl; omega, fun m hm => ?_⟩
    rw [deps_Graph_All_l5, if_neg (by simp; omega)]
  | succ d ih =>
    intro k out hd hk
    obtain ⟨k, rfl⟩ : ∃ q, k = q + 1 := ⟨k - 1, by omega⟩
    obtain ⟨r, h1, h2⟩ := indexF_at (n := n) G hl (out := out) (by omega) (by omega) hN
    cases r with
    | none =>
      refine ⟨none, (fun l hl => by cases hl), fun m hm => ?_⟩
      rw [deps_Graph_All_l5, if_pos (decide_eq_true (show (out.length : Int) < (names.length : Int) by omega)), h2 m hm]
      rfl
    | some j =>
      have hj := h1 j rfl
      obtain ⟨r2, h3, h4⟩ := ih k (out ++ [List.getD names j (Ty.dflt .str)]) (by simp; omega) (by omega)
      refine ⟨r2, h3, fun m hm => ?_⟩
      rw [deps_Graph_All_l5, if_pos (decide_eq_true (show (out.length : Int) < (names.length : Int) by omega)), h2 m hm]
      simp only []
      rw [if_neg (by simp), if_pos (show (0 : Int) ≤ (j : Int) ∧ (j : Int) < (names.length : Int) by omega), if_pos (by simp only [List.length_cons, List.length_nil]; omega), rdT_nat]
      exact h4 m hm
/-- All that a root uses, in order, or why not. -/
theorem all_at {n : Nat} (hn : 2000 < n) (hN : n < 4000000000000000000) (G : Gb g Ds) (root : ByteArray) : ∃ (l : SL) (e : ErrV), l.length ≤ 14 ∧ ∀ m, Al g m → deps_Graph_All n (((), root, ()), (((), ()), m, ())) = some (((((), ()), (e, ()), ()), ()), (((), ()), m, l, ())) := by
  obtain ⟨n, rfl⟩ : ∃ q, n = q + 1 := ⟨n - 1, by omega⟩
  obtain ⟨r, h1, h2⟩ := reach_at (n := n) (by omega) G root
  cases r with
  | none =>
    refine ⟨[], ErrV.sent 116, by simp, fun m hm => ?_⟩
    rw [deps_Graph_All, h2 m hm]
    rfl
  | some names =>
    obtain ⟨r2, h3, h4⟩ := all_loop (n := n) G (h1 names rfl) (by omega) (by omega) names.length n [] (by simp) (by have := h1 names rfl; omega)
    cases r2 with
    | none =>
      refine ⟨[], ErrV.sent 113, by simp, fun m hm => ?_⟩
      rw [deps_Graph_All, h2 m hm]
      simp only [reachA]
      rw [if_neg (by decide), h4 m hm]
    | some l =>
      refine ⟨l, ErrV.nil, h3 l rfl, fun m hm => ?_⟩
      rw [deps_Graph_All, h2 m hm]
      simp only [reachA]
      rw [if_neg (by decide), h4 m hm]
/-! ### how deep -/
theorem depth_in {n : Nat} {all us : SL} (root s : ByteArray) (x3 x4 : Int) (hl : us.length < 1000) :
    ∀ q k i (d : DM), i + q = us.length → q < k → ∃ d', ∀ m : GM, deps_Graph_Depth_l9 n k (((), root, (), s, (), x3, x4, us, (us.length : Int), (i : Int), ()), (((), ()), m, d, all, ())) = some (.inl (((), root, (), s, (), x3, x4, ()), (((), ()), m, d', all, ()))) := by
  intro q
  induction q with
  | zero =>
    intro k i d hi hk
    obtain ⟨k, rfl⟩ : ∃ q, k = q + 1 := ⟨k - 1, by omega⟩
    exact ⟨d, fun m => by rw [deps_Graph_Depth_l9, if_neg (by simp; omega)]⟩
  | succ q ih =>
    intro k i d hi hk
    obtain ⟨k, rfl⟩ : ∃ q, k = q + 1 := ⟨k - 1, by omega⟩
    obtain ⟨d', h4⟩ := ih k (i + 1) (mset (keyEq (.str : Ty)) s (mx ((mfind (keyEq (.str : Ty)) s d).getD 0) ((mfind (keyEq (.str : Ty)) (List.getD us i (Ty.dflt .str)) d).getD 0)) d) (by omega) (by omega)
    refine ⟨d', fun m => ?_⟩
    rw [deps_Graph_Depth_l9, if_pos (decide_eq_true (show (i : Int) < (us.length : Int) by omega)), if_pos (show (0 : Int) ≤ (i : Int) ∧ (i : Int) < (us.length : Int) by omega), w64_up i (by omega)]
    exact h4 m
theorem depth_out {n : Nat} (G : Gb g Ds) {all : SL} (root : ByteArray) (ha : all.length ≤ 20) (hn : 40 < n) :
    ∀ q k i (d : DM), i + q = all.length → q < k → ∃ d', ∀ m, Al g m → deps_Graph_Depth_l6 n k (((), root, (), (), (all.length : Int), (i : Int), ()), (((), ()), m, d, all, ())) = some (.inl ((root, (), ()), (((), ()), m, d', ()))) := by
  intro q
  induction q with
  | zero =>
    intro k i d hi hk
    obtain ⟨k, rfl⟩ : ∃ q, k = q + 1 := ⟨k - 1, by omega⟩
    exact ⟨d, fun m hm => by rw [deps_Graph_Depth_l6, if_neg (by simp; omega)]⟩
  | succ q ih =>
    intro k i d hi hk
    obtain ⟨k, rfl⟩ : ∃ q, k = q + 1 := ⟨k - 1, by omega⟩
    have hf := G.get (List.getD all i (Ty.dflt .str))
    obtain ⟨d1, h2⟩ := depth_in (n := n) (all := all) (us := (g (List.getD all i (Ty.dflt .str))).getD []) root (List.getD all i (Ty.dflt .str)) (all.length : Int) (i : Int) (by omega) ((g (List.getD all i (Ty.dflt .str))).getD []).length n 0 d (by omega) (by omega)
    obtain ⟨d', h5⟩ := ih k (i + 1) (mset (keyEq (.str : Ty)) (List.getD all i (Ty.dflt .str)) (IntKind.i64.wrap ((mfind (keyEq (.str : Ty)) (List.getD all i (Ty.dflt .str)) d1).getD 0 + 1)) d1) (by omega) (by omega)
    refine ⟨d', fun m hm => ?_⟩
    rw [deps_Graph_Depth_l6, if_pos (decide_eq_true (show (i : Int) < (all.length : Int) by omega)), if_pos (show (0 : Int) ≤ (i : Int) ∧ (i : Int) < (all.length : Int) by omega)]
    simp only []
    rw [rdT_nat, show mfind (keyEq (.str : Ty)) (List.getD all i (Ty.dflt .str)) m = g (List.getD all i (Ty.dflt .str)) from hm.at_ _]
    rw [show deps_Graph_Depth_l9 n n (((), root, (), List.getD all i (Ty.dflt .str), (), (all.length : Int), (i : Int), (g (List.getD all i (Ty.dflt .str))).getD [], (((g (List.getD all i (Ty.dflt .str))).getD []).length : Int), 0, ()), (((), ()), m, d, all, ())) = _ from h2 m]
    simp only []
    rw [w64_up i (by omega)]
    exact h5 m hm
theorem depth_at {n : Nat} (hn : 3000 < n) (hN : n < 4000000000000000000) (G : Gb g Ds) (root : ByteArray) : ∃ v : Int, ∀ m, Al g m → deps_Graph_Depth n (((), root, ()), (((), ()), m, ())) = some ((v, ()), (((), ()), m, ())) := by
  obtain ⟨n, rfl⟩ : ∃ q, n = q + 1 := ⟨n - 1, by omega⟩
  obtain ⟨l, e, h1, h2⟩ := all_at (n := n) (by omega) (by omega) G root
  obtain ⟨d', h3⟩ := depth_out (n := n) G root (all := l) (by omega) (by omega) l.length n 0 [] (by omega) (by omega)
  by_cases he : errNil e = true
  · refine ⟨(mfind kst root d').getD 0, fun m hm => ?_⟩
    rw [deps_Graph_Depth, h2 m hm]
    simp only []
    rw [if_neg (by rw [he]; decide), show deps_Graph_Depth_l6 n n (((), root, (), (), (l.length : Int), 0, ()), (((), ()), m, [], l, ())) = _ from h3 m hm]
  · refine ⟨0, fun m hm => ?_⟩
    rw [deps_Graph_Depth, h2 m hm]
    simp only []
    rw [if_pos (by simpa using he)]
/-! ### who uses -/
theorem names_at {n : Nat} (hn : 3 < n) (G : Gb g Ds) {m : GM} (hm : Al g m) : deps_Graph_Names n (((), ()), (((), ()), m, ())) = some (((), ()), (((), ()), m, sortS Ds, ())) := by
  obtain ⟨n, rfl⟩ : ∃ q, n = q + 2 := ⟨n - 2, by omega⟩
  have hk : ∀ s, s ∈ keys m ↔ s ∈ Ds := fun s => by rw [← mfind_in, ← G.dom s, show mfind (keyEq (.str : Ty)) s m = g s from hm.at_ s]
  have hl : (keys m).length ≤ 14 := Nat.le_trans (nodup_len hm.nd fun x hx => (hk x).1 hx) G.len
  have hs : sortS (keys m) = sortS Ds := rising_eq (sortS_rising hm.nd) (sortS_rising G.nd) fun x => by rw [(sortS_perm _).mem_iff, (sortS_perm _).mem_iff, hk]
  have e : slices_Sorted_96 (n + 1) (((), ()), (((), ()), m, ())) = some (((), ()), (((), ()), m, sortS Ds, ())) := by
    show sortedSSem _ _ _ false _ _ = _
    unfold sortedSSem
    rw [if_pos (show wfKeysS (V := SL) m = true from wf_of fun s h => G.sz s ((hk s).1 h)), if_pos (show List.length m ≤ 1099511627776 by simp only [keys, List.length_map] at hl; omega), ← hs]
  rw [deps_Graph_Names]
  simp only [maps_Keys_map_string_string_string_string, e]
theorem used_loop {n : Nat} (G : Gb g Ds) {ks : SL} {x : ByteArray} (hks : ks.length ≤ 14) (hn : 50 < n) (hN : n < 4000000000000000000) :
    ∀ d k i (acc : SL), i + d = ks.length → d < k → acc.length ≤ i → ∃ L : SL, L.length ≤ 14 ∧ ∀ m, Al g m → deps_Graph_Used_l3 n k (((), x, (), (), (ks.length : Int), (i : Int), ()), (((), ()), m, acc, ks, ())) = some (.inl (((), ()), (((), ()), m, L, ()))) := by
  intro d
  induction d with
  | zero =>
    intro k i acc hd hk ha
    obtain ⟨k, rfl⟩ : ∃ q, k = q + 1 := ⟨k - 1, by omega⟩
    exact ⟨acc, by omega, fun m hm => by rw [deps_Graph_Used_l3, if_neg (by simp; omega)]⟩
  | succ d ih =>
    intro k i acc hd hk ha
    obtain ⟨k, rfl⟩ : ∃ q, k = q + 1 := ⟨k - 1, by omega⟩
    have hf := G.get (List.getD ks i (Ty.dflt .str))
    have e := contains2_at (n := n) (l := (g (List.getD ks i (Ty.dflt .str))).getD []) x (by omega) (by omega)
    have step : ∀ m, Al g m → deps_Graph_Used_l3 n (k + 1) (((), x, (), (), (ks.length : Int), (i : Int), ()), (((), ()), m, acc, ks, ())) =
        (if decide (x ∈ (g (List.getD ks i (Ty.dflt .str))).getD []) = true then (if (acc.length + 1) * 16 ≤ 140737488355328 then deps_Graph_Used_l3 n k (((), x, (), (), (ks.length : Int), ((i + 1 : Nat) : Int), ()), (((), ()), m, acc ++ [List.getD ks i (Ty.dflt .str)], ks, ())) else none)
         else deps_Graph_Used_l3 n k (((), x, (), (), (ks.length : Int), ((i + 1 : Nat) : Int), ()), (((), ()), m, acc, ks, ()))) := fun m hm => by
      rw [deps_Graph_Used_l3, if_pos (decide_eq_true (show (i : Int) < (ks.length : Int) by omega)), if_pos (show (0 : Int) ≤ (i : Int) ∧ (i : Int) < (ks.length : Int) by omega)]
      simp only []
      rw [rdT_nat, show mfind (keyEq (.str : Ty)) (List.getD ks i (Ty.dflt .str)) m = g (List.getD ks i (Ty.dflt .str)) from hm.at_ _, e, w64_up i (by omega)]
      rfl
    by_cases hx : x ∈ (g (List.getD ks i (Ty.dflt .str))).getD []
    · obtain ⟨L, h2, h4⟩ := ih k (i + 1) (acc ++ [List.getD ks i (Ty.dflt .str)]) (by omega) (by omega) (by simp; omega)
      refine ⟨L, h2, fun m hm => ?_⟩
      rw [step m hm, if_pos (decide_eq_true hx), if_pos (by omega)]
      exact h4 m hm
    · obtain ⟨L, h2, h4⟩ := ih k (i + 1) acc (by omega) (by omega) (by omega)
      refine ⟨L, h2, fun m hm => ?_⟩
      rw [step m hm, if_neg (by simpa using hx)]
      exact h4 m hm
theorem used_at {n : Nat} (hn : 100 < n) (hN : n < 4000000000000000000) (G : Gb g Ds) (x : ByteArray) : ∃ L : SL, L.length ≤ 14 ∧ ∀ m, Al g m → deps_Graph_Used n (((), x, ()), (((), ()), m, ())) = some (((), ()), (((), ()), m, L, ())) := by
  obtain ⟨n, rfl⟩ : ∃ q, n = q + 1 := ⟨n - 1, by omega⟩
  have hl : (sortS Ds).length ≤ 14 := by rw [(sortS_perm _).length_eq]; exact G.len
  obtain ⟨L, h1, h2⟩ := used_loop (n := n) G (ks := sortS Ds) (x := x) hl (by omega) (by omega) (sortS Ds).length n 0 [] (by omega) (by omega) (by simp)
  refine ⟨L, h1, fun m hm => ?_⟩
  rw [deps_Graph_Used, names_at (by omega) G hm]
  simp only []
  rw [show deps_Graph_Used_l3 n n (((), x, (), (), ((sortS Ds).length : Int), 0, ()), (((), ()), m, [], sortS Ds, ())) = _ from h2 m hm]
end Go.Proofs.YtnajjhjbkanigaaDoor.Pure
