/- DepsSays, in plain words: what a root reaches. By this session. -/
import Derived.Test.YtnajjhjbkanigaaDoorDepsSaysA
namespace Go.Proofs.YtnajjhjbkanigaaDoor.Pure
open Go Go.Proofs.YtnajjhjbkanigaaDoor.Cm
open Classical
set_option linter.unusedVariables false
set_option linter.unusedSimpArgs false
set_option maxRecDepth 100000
abbrev kst : ByteArray → ByteArray → Bool := keyEq (.str : Ty)
abbrev DM := List (ByteArray × Int)
/-- A graph as it is asked: few names, each using few. -/
structure Gb (g : ByteArray → Option SL) (Ds : SL) : Prop where
  few : ∀ s l, g s = some l → l.length ≤ 30
  dom : ∀ s, (g s).isSome = true ↔ s ∈ Ds
  len : Ds.length ≤ 16
  sz : ∀ s ∈ Ds, s.size ≤ 1099511627776
  nd : Ds.Nodup
/-- A map that is found to be so. -/
structure Al (g : ByteArray → Option SL) (m : GM) : Prop where
  at_ : ∀ s, mfind kst s m = g s
  nd : (keys m).Nodup
variable {g : ByteArray → Option SL} {Ds : SL}
theorem Al.get {m : GM} (h : Al g m) (s : ByteArray) : mget m s = (g s).getD [] := by unfold mget; rw [show mfind (keyEq (.str : Ty)) s m = g s from h.at_ s]
theorem Gb.get (G : Gb g Ds) (s : ByteArray) : ((g s).getD []).length ≤ 30 := by
  cases h : g s with
  | none => simp
  | some l => exact G.few s l h
/-! ### what a root reaches -/
noncomputable def rem (Ds : SL) (met : DM) : Nat := (Ds.filter fun s => decide (s ∉ keys met)).length
structure RI (Ds : SL) (met : DM) : Prop where
  nd : (keys met).Nodup
  val : ∀ s ∈ keys met, mfind kst s met = some 1
  sub : ∀ s ∈ keys met, s ∈ Ds
theorem RI.add {met : DM} (h : RI Ds met) {s : ByteArray} (hs : s ∈ Ds) (hn : s ∉ keys met) : RI Ds (mset kst s 1 met) := by
  have e : mset kst s 1 met = met ++ [(s, 1)] := mset_new hn
  refine ⟨?_, fun t ht => ?_, fun t ht => ?_⟩
  · rw [e, keys, List.map_append, List.nodup_append]
    exact ⟨h.nd, by simp, fun a ha b hb e2 => by simp at hb; subst hb; subst e2; exact hn ha⟩
  · rw [mfind_mset]
    split
    · rfl
    · rename_i hne
      rw [e, keys, List.map_append, List.mem_append] at ht
      rcases ht with ht | ht
      · exact h.val t ht
      · simp at ht; exact absurd ht hne
  · rw [e, keys, List.map_append, List.mem_append] at ht
    rcases ht with ht | ht
    · exact h.sub t ht
    · simp at ht; rw [ht]; exact hs
theorem rem_add {met : DM} {s : ByteArray} (hs : s ∈ Ds) (hn : s ∉ keys met) : rem Ds (mset kst s 1 met) < rem Ds met := by
  have e : mset kst s 1 met = met ++ [(s, 1)] := mset_new hn
  refine cnt_lt (p := fun t => decide (t ∉ keys met)) (q := fun t => decide (t ∉ keys (mset kst s 1 met))) (fun x hx => ?_) (x := s) ?_ ?_ hs
  · have hx := of_decide_eq_true hx
    refine decide_eq_true fun h => hx ?_
    rw [e, keys, List.map_append, List.mem_append]
    exact .inl h
  · exact decide_eq_true hn
  · refine decide_eq_false fun h => h ?_
    rw [e, keys, List.map_append, List.mem_append]
    exact .inr (by simp)
/-- What a root reaches. -/
inductive Rch (g : ByteArray → Option SL) (root : ByteArray) : ByteArray → Prop
  | base : Rch g root root
  | step {s x : ByteArray} {v : SL} (h : Rch g root s) (hs : g s = some v) (hx : x ∈ v) : Rch g root x
structure RJ (g : ByteArray → Option SL) (root : ByteArray) (met : DM) (todo : SL) : Prop where
  rch : ∀ s, s ∈ keys met ∨ s ∈ todo → Rch g root s
  clo : ∀ s ∈ keys met, ∀ v, g s = some v → ∀ x ∈ v, x ∈ keys met ∨ x ∈ todo
  rt : root ∈ keys met ∨ root ∈ todo
theorem RJ.skip {root s : ByteArray} {met : DM} {rest : SL} (h : RJ g root met (s :: rest)) (hs : s ∈ keys met) : RJ g root met rest := by
  have key : ∀ x, x ∈ keys met ∨ x ∈ s :: rest → x ∈ keys met ∨ x ∈ rest := fun x hx => by
    rcases hx with hx | hx
    · exact .inl hx
    · rcases List.mem_cons.1 hx with rfl | hx
      · exact .inl hs
      · exact .inr hx
  exact ⟨fun x hx => h.rch x (hx.imp id fun q => .tail _ q), fun t ht v hv x hx => key x (h.clo t ht v hv x hx), key _ h.rt⟩
theorem keys_new {met : DM} {s : ByteArray} (hn : s ∉ keys met) (x : ByteArray) : x ∈ keys (mset kst s 1 met) ↔ x ∈ keys met ∨ x = s := by
  have e : mset kst s 1 met = met ++ [(s, 1)] := mset_new hn
  rw [e, keys, List.map_append, List.mem_append]
  simp
theorem RJ.add {root s : ByteArray} {met : DM} {rest v : SL} (h : RJ g root met (s :: rest)) (hn : s ∉ keys met) (hv : g s = some v) : RJ g root (mset kst s 1 met) (rest ++ v) := by
  have hk := keys_new hn
  have key : ∀ x, x ∈ keys met ∨ x ∈ s :: rest → x ∈ keys (mset kst s 1 met) ∨ x ∈ rest ++ v := fun x hx => by
    rcases hx with hx | hx
    · exact .inl ((hk x).2 (.inl hx))
    · rcases List.mem_cons.1 hx with rfl | hx
      · exact .inl ((hk _).2 (.inr rfl))
      · exact .inr (List.mem_append.2 (.inl hx))
  have hs : Rch g root s := h.rch s (.inr (.head _))
  refine ⟨fun x hx => ?_, fun t ht w hw x hx => ?_, key _ h.rt⟩
  · rcases hx with hx | hx
    · rcases (hk x).1 hx with hx | rfl
      · exact h.rch x (.inl hx)
      · exact hs
    · rcases List.mem_append.1 hx with hx | hx
      · exact h.rch x (.inr (.tail _ hx))
      · exact hs.step hv hx
  · rcases (hk t).1 ht with ht | rfl
    · exact key x (h.clo t ht w hw x hx)
    · rw [hv] at hw
      cases hw
      exact .inr (List.mem_append.2 (.inr hx))
def reachR (m : GM) : Option DM → Option (OutT deps_Graph_reach_l3_o)
  | some met => some (.inl (((), ()), (((), ()), m, met, ())))
  | none => some (.inr (.inl (((), ErrV.sent 116, ()), (((), ()), m, ()))))
def ReachOk (g : ByteArray → Option SL) (Ds : SL) (root : ByteArray) : Option DM → Prop
  | none => ∃ s, Rch g root s ∧ g s = none
  | some met => RI Ds met ∧ RJ g root met []
theorem reach_loop {n : Nat} (G : Gb g Ds) {m : GM} (hm : Al g m) (root : ByteArray) : ∀ (f k : Nat) (met : DM) (todo : SL), rem Ds met * 31 + todo.length ≤ f → f < k → f < 100000 → RI Ds met → RJ g root met todo → ∃ r : Option DM, ReachOk g Ds root r ∧ deps_Graph_reach_l3 n k (((), (), (), ()), (((), ()), m, met, todo, ())) = reachR m r := by
  intro f
  induction f with
  | zero =>
    intro k met todo hf hk hF hI hJ
    obtain ⟨k, rfl⟩ : ∃ q, k = q + 1 := ⟨k - 1, by omega⟩
    obtain rfl : todo = [] := List.eq_nil_of_length_eq_zero (by omega)
    refine ⟨some met, ⟨hI, hJ⟩, ?_⟩
    rw [deps_Graph_reach_l3, if_neg (by simp)]
    rfl
  | succ f ih =>
    intro k met todo hf hk hF hI hJ
    obtain ⟨k, rfl⟩ : ∃ q, k = q + 1 := ⟨k - 1, by omega⟩
    cases todo with
    | nil =>
      refine ⟨some met, ⟨hI, hJ⟩, ?_⟩
      rw [deps_Graph_reach_l3, if_neg (by simp)]
      rfl
    | cons s rest =>
      simp only [List.length_cons] at hf
      have hlen : ((s :: rest).length : Int) = ((rest.length + 1 : Nat) : Int) := rfl
      have hr0 : rdT (.str : Ty) (s :: rest) 0 = s := rfl
      have hc1 : cutL (s :: rest) 1 ((s :: rest).length : Int) = rest := cut1 s rest
      have step : deps_Graph_reach_l3 n (k + 1) (((), (), (), ()), (((), ()), m, met, s :: rest, ())) =
          (if !((g s).isSome) then some (.inr (.inl (((), ErrV.sent 116, ()), (((), ()), m, ()))))
           else if decide ((mfind kst s met).getD 0 > 0) = true then deps_Graph_reach_l3 n k (((), (), (), ()), (((), ()), m, met, rest, ()))
           else if (rest.length + ((g s).getD []).length) * 16 ≤ 140737488355328 then deps_Graph_reach_l3 n k (((), (), (), ()), (((), ()), m, mset kst s 1 met, rest ++ (g s).getD [], ())) else none) := by
        rw [deps_Graph_reach_l3, if_pos (decide_eq_true (show ((s :: rest).length : Int) > 0 by omega)), if_pos (show 0 ≤ (0 : Int) ∧ (0 : Int) < ((s :: rest).length : Int) from ⟨by omega, by omega⟩), if_pos (show 0 ≤ (1 : Int) ∧ (1 : Int) ≤ ((s :: rest).length : Int) from ⟨by omega, by omega⟩)]
        simp only []
        rw [hr0, hc1, show mfind (keyEq (.str : Ty)) s m = g s from hm.at_ s]
      cases hg : g s with
      | none =>
        refine ⟨none, ⟨s, hJ.rch s (.inr (.head _)), hg⟩, ?_⟩
        rw [step, hg]
        rfl
      | some v =>
        have hv := G.few s v hg
        have hsD : s ∈ Ds := (G.dom s).1 (by rw [hg]; rfl)
        by_cases hs : s ∈ keys met
        · obtain ⟨r, h1, h2⟩ := ih k met rest (by omega) (by omega) (by omega) hI (hJ.skip hs)
          refine ⟨r, h1, ?_⟩
          rw [step, hg, if_neg (by simp), hI.val s hs, if_pos (by decide)]
          exact h2
        · have h3 := rem_add hsD hs
          have h4 : rem Ds (mset kst s 1 met) * 31 + 31 ≤ rem Ds met * 31 := by omega
          obtain ⟨r, h1, h2⟩ := ih k (mset kst s 1 met) (rest ++ v) (by rw [List.length_append]; omega) (by omega) (by omega) (hI.add hsD hs) (hJ.add hs hg)
          refine ⟨r, h1, ?_⟩
          rw [step, hg, if_neg (by simp), show mfind kst s met = none from mfind_out hs, if_neg (by decide), if_pos (by show (rest.length + v.length) * 16 ≤ _; omega)]
          exact h2
def reachA (m : GM) : Option SL → Option (OutsT deps_Graph_reach_outs)
  | some l => some (((((), ()), (ErrV.nil, ()), ()), ()), (((), ()), m, l, ()))
  | none => some (((((), ()), (ErrV.sent 116, ()), ()), ()), (((), ()), m, [], ()))
/-- All names that a root reaches, rising, or a name that is none. -/
def ReachA (g : ByteArray → Option SL) (Ds : SL) (root : ByteArray) : Option SL → Prop
  | none => ∃ s, Rch g root s ∧ g s = none
  | some names => (∀ s, s ∈ names ↔ Rch g root s) ∧ Rising names ∧ (∀ s ∈ names, s ∈ Ds) ∧ names.length ≤ 16
theorem reach_at {n : Nat} (hn : 1000 < n) (G : Gb g Ds) {m : GM} (hm : Al g m) (root : ByteArray) : ∃ r : Option SL, ReachA g Ds root r ∧ deps_Graph_reach n (((), root, ()), (((), ()), m, ())) = reachA m r := by
  obtain ⟨n, rfl⟩ : ∃ q, n = q + 2 := ⟨n - 2, by omega⟩
  have hl := G.len
  have hrem : rem Ds [] ≤ Ds.length := List.length_filter_le _ _
  obtain ⟨r, h1, h2⟩ := reach_loop (n := n + 1) G hm root 600 (n + 1) [] [root] (by simp only [List.length_cons, List.length_nil]; omega) (by omega) (by omega) ⟨.nil, (fun s hs => by cases hs), (fun s hs => by cases hs)⟩ ⟨fun s hs => by
    rcases hs with hs | hs
    · cases hs
    · rw [List.mem_singleton] at hs
      rw [hs]
      exact .base, (fun s hs => by cases hs), .inr (.head _)⟩
  cases r with
  | none =>
    refine ⟨none, h1, ?_⟩
    rw [deps_Graph_reach, h2]
    rfl
  | some met =>
    obtain ⟨hI, hJ⟩ := h1
    have hk : (keys met).length ≤ 16 := Nat.le_trans (nodup_len hI.nd hI.sub) hl
    have e : slices_Sorted_111 (n + 1) (((), ()), (((), ()), met, ())) = some (((), ()), (((), ()), met, sortS (keys met), ())) := by
      show sortedSSem _ _ _ false _ _ = _
      unfold sortedSSem
      rw [if_pos (show wfKeysS (V := Int) met = true from wf_of fun s hs => G.sz s (hI.sub s hs)), if_pos (show List.length met ≤ 1099511627776 by simp only [keys, List.length_map] at hk; omega)]
    have hall : ∀ s, Rch g root s → s ∈ keys met := by
      intro s hs
      induction hs with
      | base =>
        rcases hJ.rt with h | h
        · exact h
        · cases h
      | step h hs hx ih =>
        rcases hJ.clo _ ih _ hs _ hx with h | h
        · exact h
        · cases h
    refine ⟨some (sortS (keys met)), ⟨fun s => ?_, sortS_rising hI.nd, fun s hs => hI.sub s ((sortS_perm _).mem_iff.1 hs), by rw [(sortS_perm _).length_eq]; exact hk⟩, ?_⟩
    · rw [(sortS_perm _).mem_iff]
      exact ⟨fun h => hJ.rch s (.inl h), hall s⟩
    · rw [deps_Graph_reach, h2]
      simp only [reachR, maps_Keys_map_string_int_string_int, e]
      rfl
end Go.Proofs.YtnajjhjbkanigaaDoor.Pure
