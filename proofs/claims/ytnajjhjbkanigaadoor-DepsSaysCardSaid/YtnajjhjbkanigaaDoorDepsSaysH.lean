/- DepsSays, in plain words: what a root uses, the document's way. By this session. -/
import Derived.Test.YtnajjhjbkanigaaDoorDepsSaysG
namespace Go.Proofs.YtnajjhjbkanigaaDoor.Pure
open Go Go.Proofs.YtnajjhjbkanigaaDoor.Cm
open Classical
set_option linter.unusedVariables false
set_option linter.unusedSimpArgs false
set_option maxRecDepth 100000
theorem among_at {n : Nat} {l : SL} (x : ByteArray) (hn : l.length + 1 < n) (hN : n < 4000000000000000000) : (x ∈ l ∧ ∃ j : Nat, ref_Among n ((l, x, ()), ()) = some (((j : Int), ()), ())) ∨ (x ∉ l ∧ ref_Among n ((l, x, ()), ()) = some (((-1), ()), ())) := by
  obtain ⟨n, rfl⟩ : ∃ q, n = q + 1 := ⟨n - 1, by omega⟩
  have h := scan (len := l.length) (F := fun k i => ref_Among_l2 n k ((l, x, (i : Int), ()), ())) (p := fun i => strEq (l.getD i ByteArray.empty) x) (found := fun i => some (.inr (.inl (((i : Int), ()), ())))) (miss := some (.inl ((), ())))
    (fun k i hi => by
      show ref_Among_l2 n (k + 1) _ = _
      rw [ref_Among_l2, if_pos (decide_eq_true (show (i : Int) < (l.length : Int) by omega)), if_pos (show (0 : Int) ≤ (i : Int) ∧ (i : Int) < (l.length : Int) by omega), rdT_nat, w64_up i (by omega)]
      rfl)
    (fun k => by
      show ref_Among_l2 n (k + 1) _ = _
      rw [ref_Among_l2, if_neg (by simp)]) l.length n 0 (by omega) (by omega)
  rcases h with ⟨j, _, h2, h3, h4⟩ | ⟨h3, h4⟩
  · left
    simp only [strEq_iff, decide_eq_true_eq] at h3
    refine ⟨mem_getD.2 ⟨j, h2, h3⟩, j, ?_⟩
    rw [ref_Among]
    exact (congrArg (fun r => match r with | some (.inl (_, _)) => some (((-1), ()), ()) | some (.inr (.inl ((x3, _), _))) => some ((x3, ()), ()) | some (.inr (.inr (_))) => none | none => none) h4)
  · right
    refine ⟨fun hm => ?_, ?_⟩
    · obtain ⟨j, hj, e⟩ := mem_getD.1 hm
      have := h3 j (Nat.zero_le _) hj
      rw [strEq_iff, e] at this
      simp at this
    · rw [ref_Among]
      exact (congrArg (fun r => match r with | some (.inl (_, _)) => some (((-1), ()), ()) | some (.inr (.inl ((x3, _), _))) => some ((x3, ()), ()) | some (.inr (.inr (_))) => none | none => none) h4)
theorem among2_at {n : Nat} {l : SL} (x : ByteArray) (hn : l.length + 1 < n) (hN : n < 4000000000000000000) : (x ∈ l ∧ ∃ j : Nat, ref_Among_2 n (((), x, ()), (l, ())) = some (((j : Int), ()), (l, ()))) ∨ (x ∉ l ∧ ref_Among_2 n (((), x, ()), (l, ())) = some (((-1), ()), (l, ()))) := by
  obtain ⟨n, rfl⟩ : ∃ q, n = q + 1 := ⟨n - 1, by omega⟩
  have h := scan (len := l.length) (F := fun k i => ref_Among_2_l2 n k (((), x, (i : Int), ()), (l, ()))) (p := fun i => strEq (l.getD i ByteArray.empty) x) (found := fun i => some (.inr (.inl (((i : Int), ()), (l, ()))))) (miss := some (.inl ((), (l, ()))))
    (fun k i hi => by
      show ref_Among_2_l2 n (k + 1) _ = _
      rw [ref_Among_2_l2, if_pos (decide_eq_true (show (i : Int) < (l.length : Int) by omega)), if_pos (show (0 : Int) ≤ (i : Int) ∧ (i : Int) < (l.length : Int) by omega), rdT_nat, w64_up i (by omega)]
      rfl)
    (fun k => by
      show ref_Among_2_l2 n (k + 1) _ = _
      rw [ref_Among_2_l2, if_neg (by simp)]) l.length n 0 (by omega) (by omega)
  rcases h with ⟨j, _, h2, h3, h4⟩ | ⟨h3, h4⟩
  · left
    simp only [strEq_iff, decide_eq_true_eq] at h3
    refine ⟨mem_getD.2 ⟨j, h2, h3⟩, j, ?_⟩
    rw [ref_Among_2]
    exact (congrArg (fun r => match r with | some (.inl (_, (l3, _))) => some (((-1), ()), (l3, ())) | some (.inr (.inl ((x4, _), (l5, _)))) => some ((x4, ()), (l5, ())) | some (.inr (.inr (_))) => none | none => none) h4)
  · right
    refine ⟨fun hm => ?_, ?_⟩
    · obtain ⟨j, hj, e⟩ := mem_getD.1 hm
      have := h3 j (Nat.zero_le _) hj
      rw [strEq_iff, e] at this
      simp at this
    · rw [ref_Among_2]
      exact (congrArg (fun r => match r with | some (.inl (_, (l3, _))) => some (((-1), ()), (l3, ())) | some (.inr (.inl ((x4, _), (l5, _)))) => some ((x4, ()), (l5, ())) | some (.inr (.inr (_))) => none | none => none) h4)
theorem among_is {n : Nat} {l : SL} (x : ByteArray) (hn : l.length + 1 < n) (hN : n < 4000000000000000000) : ∃ a : Int, (a ≥ 0 ↔ x ∈ l) ∧ ref_Among n ((l, x, ()), ()) = some ((a, ()), ()) := by
  rcases among_at (n := n) (l := l) x hn hN with ⟨h, j, e⟩ | ⟨h, e⟩
  · exact ⟨j, ⟨fun _ => h, fun _ => by omega⟩, e⟩
  · exact ⟨-1, ⟨fun q => by omega, fun q => absurd q h⟩, e⟩
theorem among2_is {n : Nat} {l : SL} (x : ByteArray) (hn : l.length + 1 < n) (hN : n < 4000000000000000000) : ∃ a : Int, (a ≥ 0 ↔ x ∈ l) ∧ ref_Among_2 n (((), x, ()), (l, ())) = some ((a, ()), (l, ())) := by
  rcases among2_at (n := n) (l := l) x hn hN with ⟨h, j, e⟩ | ⟨h, e⟩
  · exact ⟨j, ⟨fun _ => h, fun _ => by omega⟩, e⟩
  · exact ⟨-1, ⟨fun q => by omega, fun q => absurd q h⟩, e⟩
/-- Nodes that make a graph. -/
structure Ok (l : List NodeT) : Prop where
  len : l.length ≤ 16
  light : ∀ x ∈ l, Light x
  nd : (l.map (·.1)).Nodup
abbrev gOf (l : List NodeT) (s : ByteArray) : Option SL := mfind kst s (mapOf l)
theorem Ok.g {l : List NodeT} (h : Ok l) : Gb (gOf l) (l.map (·.1)) := graph_of h.len h.light h.nd
theorem Ok.al {l : List NodeT} (h : Ok l) : Al (gOf l) (mapOf l) := ⟨fun s => rfl, by rw [mapOf_keys]; exact h.nd⟩
abbrev ndIn (x : NodeT) : ref10_Calls_ins.T := (((x.1, x.2.1, x.2.2.1, x.2.2.2.1, x.2.2.2.2, ()), ()), ())
theorem look {n : Nat} {l : List NodeT} (h : Ok l) (hn : 100 < n) (s : ByteArray) : (gOf l s = none ∧ ref16_find n ((l, s, ()), ()) = some (((-1), ()), ())) ∨ (∃ (j : Nat) (v : SL), j < l.length ∧ gOf l s = some v ∧ v.length ≤ 30 ∧ ref16_find n ((l, s, ()), ()) = some (((j : Int), ()), ()) ∧ ref10_Calls n (ndIn (rdT ty0 l (j : Int))) = some ((v, ()), ())) := by
  have hl := h.len
  rcases find_at (n := n) (l := l) s (by omega) (by omega) with ⟨j, h1, h2, h3⟩ | ⟨h1, h2⟩
  · have hx := h.light _ (getD_mem l j h1 (Ty.dflt ty0))
    have hc := callsN_len (l.getD j (Ty.dflt ty0)).2.2.2.2
    refine .inr ⟨j, callsN (l.getD j (Ty.dflt ty0)).2.2.2.2, h1, ?_, ?_, h3, ?_⟩
    · show mfind kst s (mapOf l) = _
      rw [← h2]
      exact graph_get h.nd h1
    · exact Nat.le_trans hc hx.2
    · exact calls_ref hn _ _ _ _ _ hx.2
  · exact .inl ⟨graph_none h1, h2⟩
theorem used_l10 {n : Nat} (l : List NodeT) (i : Int) (v : SL) (hn : 2000 < n) (hN : n < 4000000000000000000) (hv : v.length ≤ 30) : ∀ d j k (all : SL), j + d = v.length → d < k → all.length ≤ 1000 + j → all.Nodup → ∃ ext : SL, (all ++ ext).Nodup ∧ ext.length ≤ d ∧ (∀ x, x ∈ ext → x ∈ v) ∧ (∀ x, x ∈ v.drop j → x ∈ all ++ ext) ∧ ref16_Used_l10 n k ((l, (), i, v, (j : Int), ()), (all, ())) = some (.inl ((l, (), i, ()), (all ++ ext, ()))) := by
  intro d
  induction d with
  | zero =>
    intro j k all hj hk ha hn
    obtain ⟨k, rfl⟩ : ∃ q, k = q + 1 := ⟨k - 1, by omega⟩
    refine ⟨[], by rw [List.append_nil]; exact hn, Nat.le_refl _, (fun x hx => by cases hx), fun x hx => ?_, ?_⟩
    · rw [List.drop_eq_nil_of_le (by omega)] at hx; cases hx
    · rw [ref16_Used_l10, if_neg (by simp; omega), List.append_nil]
  | succ d ih =>
    intro j k all hj hk ha hnd
    obtain ⟨k, rfl⟩ : ∃ q, k = q + 1 := ⟨k - 1, by omega⟩
    have hjv : j < v.length := by omega
    have hdr : v.drop j = v.getD j (Ty.dflt .str) :: v.drop (j + 1) := by
      rw [List.drop_eq_getElem_cons hjv, List.getD_eq_getElem?_getD, List.getElem?_eq_getElem hjv]
      rfl
    have hmem : v.getD j (Ty.dflt .str) ∈ v := getD_mem v j hjv _
    obtain ⟨a, a1, a2⟩ := among2_is (n := n) (l := all) (v.getD j (Ty.dflt .str)) (by omega) hN
    have hb : 0 ≤ (j : Int) ∧ (j : Int) < (v.length : Int) := ⟨by omega, by omega⟩
    rw [ref16_Used_l10, if_pos (decide_eq_true hb.2), if_pos hb, show ref_Among_2 n (((), rdT (.str : Ty) v (j : Int), ()), (all, ())) = _ from a2]
    simp only []
    rw [w64_up j (by omega)]
    by_cases hm : v.getD j (Ty.dflt .str) ∈ all
    · have := a1.2 hm
      rw [if_neg (by simp; omega)]
      obtain ⟨ext, e1, e2, e3, e4, e5⟩ := ih (j + 1) k all (by omega) (by omega) (by omega) hnd
      refine ⟨ext, e1, by omega, e3, fun x hx => ?_, e5⟩
      rw [hdr] at hx
      rcases List.mem_cons.1 hx with rfl | hx
      · exact List.mem_append.2 (.inl hm)
      · exact e4 x hx
    · have : ¬ a ≥ 0 := fun q => hm (a1.1 q)
      rw [if_pos (decide_eq_true (show a < 0 by omega)), if_pos hb, if_pos (by simp only [List.length_cons, List.length_nil]; omega)]
      have hnd2 : (all ++ [v.getD j (Ty.dflt .str)]).Nodup := by
        rw [List.nodup_append]
        exact ⟨hnd, by simp, fun a ha b hb e => by rw [List.mem_singleton] at hb; subst hb; subst e; exact hm ha⟩
      obtain ⟨ext, e1, e2, e3, e4, e5⟩ := ih (j + 1) k (all ++ [v.getD j (Ty.dflt .str)]) (by omega) (by omega) (by simp only [List.length_append, List.length_cons, List.length_nil]; omega) hnd2
      rw [List.append_assoc] at e1 e4 e5
      refine ⟨[v.getD j (Ty.dflt .str)] ++ ext, e1, by simp only [List.length_append, List.length_cons, List.length_nil]; omega, fun x hx => ?_, fun x hx => ?_, e5⟩
      · rcases List.mem_append.1 hx with hx | hx
        · rw [List.mem_singleton] at hx; rw [hx]; exact hmem
        · exact e3 x hx
      · rw [hdr] at hx
        rcases List.mem_cons.1 hx with rfl | hx
        · exact List.mem_append.2 (.inr (List.mem_append.2 (.inl (by simp))))
        · exact e4 x hx
def usedR : Option SL → Option (OutT ref16_Used_l3_o)
  | some all => some (.inl (((), ()), (all, ())))
  | none => some (.inr (.inl (((), 116, ()), ())))
def UsedOk (g : ByteArray → Option SL) (Ds : SL) (root : ByteArray) : Option SL → Prop
  | none => ∃ s, Rch g root s ∧ g s = none
  | some all => all.Nodup ∧ (∀ s, s ∈ all ↔ Rch g root s) ∧ ∀ s ∈ all, s ∈ Ds
theorem used_l3 {n : Nat} {l : List NodeT} (h : Ok l) (root : ByteArray) (hn : 3000 < n) (hN : n < 4000000000000000000) : ∀ d i k (all : SL), i + d = 17 → d < k → i ≤ all.length → all.length ≤ 1 + 30 * i → all.Nodup → root ∈ all → (∀ x ∈ all, Rch (gOf l) root x) → (∀ x ∈ all.take i, ∃ v, gOf l x = some v ∧ ∀ u ∈ v, u ∈ all) → ∃ r, UsedOk (gOf l) (l.map (·.1)) root r ∧ ref16_Used_l3 n k ((l, (), (i : Int), ()), (all, ())) = usedR r := by
  have G := h.g
  have fit : ∀ i (all : SL), i ≤ all.length → all.Nodup → (∀ x ∈ all.take i, ∃ v, gOf l x = some v ∧ ∀ u ∈ v, u ∈ all) → i ≤ 16 := fun i all hi hnd hT => by
    have h1 : (all.take i).length ≤ (l.map (·.1)).length := nodup_len (List.Sublist.nodup (List.take_sublist i all) hnd) fun x hx => by
      obtain ⟨v, hv, _⟩ := hT x hx
      exact (G.dom x).1 (by rw [hv]; rfl)
    have := G.len
    rw [List.length_take] at h1
    omega
  intro d
  induction d with
  | zero =>
    intro i k all hd hk hi hl hnd hr hR hT
    have := fit i all hi hnd hT
    omega
  | succ d ih =>
    intro i k all hd hk hi hl hnd hr hR hT
    obtain ⟨k, rfl⟩ : ∃ q, k = q + 1 := ⟨k - 1, by omega⟩
    by_cases he : i = all.length
    · refine ⟨some all, ⟨hnd, fun s => ⟨hR s, fun hs => ?_⟩, fun s hs => ?_⟩, ?_⟩
      · induction hs with
        | base => exact hr
        | step hs hv hx ih2 =>
          obtain ⟨w, hw, hu⟩ := hT _ (by rw [List.take_of_length_le (by omega)]; exact ih2)
          rw [hv] at hw
          cases hw
          exact hu _ hx
      · obtain ⟨w, hw, hu⟩ := hT s (by rw [List.take_of_length_le (by omega)]; exact hs)
        exact (G.dom s).1 (by rw [hw]; rfl)
      · rw [ref16_Used_l3, if_neg (by simp; omega)]
        rfl
    · have hb : 0 ≤ (i : Int) ∧ (i : Int) < (all.length : Int) := ⟨by omega, by omega⟩
      have hmem : all.getD i (Ty.dflt .str) ∈ all := getD_mem all i (by omega) _
      rw [ref16_Used_l3, if_pos (decide_eq_true hb.2), if_pos hb]
      rcases look (n := n) h (by omega) (all.getD i (Ty.dflt .str)) with ⟨g1, g2⟩ | ⟨j, v, j1, g1, v1, g2, g3⟩
      · refine ⟨none, ⟨_, hR _ hmem, g1⟩, ?_⟩
        rw [show ref16_find n ((l, rdT (.str : Ty) all (i : Int), ()), ()) = _ from g2]
        rfl
      · obtain ⟨ext, e1, e2, e3, e4, e5⟩ := used_l10 (n := n) l (i : Int) v (by omega) hN v1 v.length 0 n all (by omega) (by omega) (by omega) hnd
        rw [show ref16_find n ((l, rdT (.str : Ty) all (i : Int), ()), ()) = _ from g2]
        simp only []
        rw [if_neg (by simp), if_pos (show 0 ≤ (j : Int) ∧ (j : Int) < (l.length : Int) from ⟨by omega, by omega⟩), show ref10_Calls n _ = _ from g3]
        simp only []
        rw [show ref16_Used_l10 n n ((l, (), (i : Int), v, 0, ()), (all, ())) = _ from e5]
        simp only []
        rw [w64_up i (by omega)]
        have hall : ∀ x, x ∈ all → x ∈ all ++ ext := fun x hx => List.mem_append.2 (.inl hx)
        refine ih (i + 1) k (all ++ ext) (by omega) (by omega) (by rw [List.length_append]; omega) (by rw [List.length_append]; omega) e1 (hall _ hr) (fun x hx => ?_) (fun x hx => ?_)
        · rcases List.mem_append.1 hx with hx | hx
          · exact hR x hx
          · exact (hR _ hmem).step g1 (e3 x hx)
        · have ht : (all ++ ext).take (i + 1) = all.take i ++ [all.getD i (Ty.dflt .str)] := by
            rw [List.take_append_of_le_length (by omega), take_succ all i (by omega) (Ty.dflt .str)]
          rw [ht] at hx
          rcases List.mem_append.1 hx with hx | hx
          · obtain ⟨w, hw, hu⟩ := hT x hx
            exact ⟨w, hw, fun u hu2 => hall u (hu u hu2)⟩
          · rw [List.mem_singleton] at hx
            subst hx
            exact ⟨v, g1, fun u hu => e4 u (by rw [List.drop_zero]; exact hu)⟩
def usedA : Option SL → Option (OutsT ref16_Used_outs)
  | some names => some (((((), ()), (0, ()), ()), ()), (names, ()))
  | none => some (((((), ()), (116, ()), ()), ()), ([], ()))
theorem used_ref {n : Nat} {l : List NodeT} (h : Ok l) (root : ByteArray) (hn : 4000 < n) (hN : n < 4000000000000000000) : ∃ r, ReachA (gOf l) (l.map (·.1)) root r ∧ ref16_Used n ((root, l, ()), ()) = usedA r := by
  obtain ⟨n, rfl⟩ : ∃ q, n = q + 1 := ⟨n - 1, by omega⟩
  obtain ⟨r, h1, h2⟩ := used_l3 (n := n) h root (by omega) (by omega) 17 0 n [root] (by omega) (by omega) (by simp) (by simp) (by simp) (by simp) (fun x hx => by rw [List.mem_singleton] at hx; rw [hx]; exact .base) (fun x hx => by cases hx)
  rw [ref16_Used, show ref16_Used_l3 n n ((l, (), 0, ()), ([root], ())) = _ from h2]
  cases r with
  | none => exact ⟨none, h1, rfl⟩
  | some all =>
    obtain ⟨a1, a2, a3⟩ := h1
    have hlen : all.length ≤ 16 := Nat.le_trans (nodup_len a1 a3) h.g.len
    obtain ⟨R, r1, r2, r3, r4⟩ := rising_ref (n := n) all (by omega) (by omega)
    refine ⟨some R, ⟨fun s => by rw [r3 s, a2 s], r1, fun s hs => a3 s ((r3 s).1 hs), by omega⟩, ?_⟩
    simp only [usedR]
    rw [r4]
    rfl
theorem ReachA_eq {g : ByteArray → Option SL} {Ds : SL} (G : Gb g Ds) {root : ByteArray} : ∀ {a b : Option SL}, ReachA g Ds root a → ReachA g Ds root b → a = b
  | none, none, _, _ => rfl
  | none, some b, ⟨s, h1, h2⟩, ⟨b1, b2, b3, b4⟩ => by
    have := (G.dom s).2 (b3 s ((b1 s).2 h1))
    rw [h2] at this
    cases this
  | some a, none, ⟨b1, b2, b3, b4⟩, ⟨s, h1, h2⟩ => by
    have := (G.dom s).2 (b3 s ((b1 s).2 h1))
    rw [h2] at this
    cases this
  | some a, some b, ⟨a1, a2, a3, a4⟩, ⟨b1, b2, b3, b4⟩ => by rw [rising_eq a2 b2 fun x => by rw [a1 x, b1 x]]
end Go.Proofs.YtnajjhjbkanigaaDoor.Pure
