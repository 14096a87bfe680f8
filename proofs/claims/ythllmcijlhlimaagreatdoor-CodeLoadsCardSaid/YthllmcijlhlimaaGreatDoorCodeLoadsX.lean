/- What is linked, in plain words. By this session. -/
import Derived.Test.YthllmcijlhlimaaGreatDoorCodeLoadsW
namespace Go.Proofs.YthllmcijlhlimaaGreatDoor.Pure
open Go Go.Proofs.YthllmcijlhlimaaGreatDoor.Cm
open Classical
set_option linter.unusedVariables false
set_option linter.unusedSimpArgs false
set_option maxRecDepth 100000
def ob (l : List ObjT) (s : ByteArray) : ObjT := (mf s (objs l)).getD dO
def oE (o : ObjT) : List Int := objE o.1 o.2.1 o.2.2.1 o.2.2.2.1 o.2.2.2.2.1 o.2.2.2.2.2.1 o.2.2.2.2.2.2
abbrev OFit (o : ObjT) : Prop := Fit o.1 o.2.1 o.2.2.1 o.2.2.2.1 o.2.2.2.2.1 o.2.2.2.2.2.1 o.2.2.2.2.2.2
def linkE (l : List ObjT) (root : ByteArray) (N : SL) : List Int := txt root ++ (enc (N.length : Int) ++ N.flatMap (fun s => oE (ob l s)))
theorem mf_some {l : List ObjT} {s : ByteArray} (h : s ∈ keys (objs l)) : mf s (objs l) = some (ob l s) := by
  have := mfind_in.2 h
  unfold ob
  cases e : mf s (objs l) with
  | none => rw [show mfind (keyEq (.str : Ty)) s (objs l) = none from e] at this; cases this
  | some o => rfl
theorem ob_in {l : List ObjT} {s : ByteArray} (h : s ∈ keys (objs l)) : ob l s ∈ l ∧ (ob l s).1 = s := mf_mem (mf_some h)
theorem Index_at {n : Nat} {l : List ObjT} (hn : l.length + 5 < n) (hl : l.length < 1000) (hnd : (keys (objs l)).Nodup) {s : ByteArray} {o : ObjT} (h : mf s (objs l) = some o) :
    ∃ j : Nat, j < l.length ∧ l.getD j (Ty.dflt ty0) = o ∧ slices_IndexFunc_api_Object_api_Object n ((l, (), ()), ((s, ()), ())) = some (((j : Int), ()), ((s, ()), ())) := by
  obtain ⟨n, rfl⟩ : ∃ m, n = m + 1 + 1 := ⟨n - 2, by omega⟩
  obtain ⟨ho, hs⟩ := mf_mem h
  have a := for_inv (F := slices_IndexFunc_api_Object_api_Object_l2 (n + 1)) (len := l.length) (st := fun i => ((l, (), (l.length : Int), (i : Int), ()), ((s, ()), ()))) (fun i => ∀ c ∈ l.take i, c.1 ≠ s) (fun r => ∃ j : Nat, j < l.length ∧ l.getD j (Ty.dflt ty0) = o ∧ r = some (.inr (.inl (((j : Int), ()), ((s, ()), ()))))) (by simp) (fun i k hi hI => by
    have hm := getD_mem l i hi (Ty.dflt ty0)
    simp only [slices_IndexFunc_api_Object_api_Object_l2, code_Link_1]
    rw [if_pos (decide_eq_true (show (i : Int) < (l.length : Int) by omega)), if_pos (show 0 ≤ (i : Int) ∧ (i : Int) < (l.length : Int) from ⟨by omega, by omega⟩), rdT_nat, strEq_iff]
    by_cases he : (l.getD i (Ty.dflt ty0)).1 = s
    · rw [if_pos (decide_eq_true he)]
      refine .inr ⟨i, hi, ?_, rfl⟩
      have h1 := mf_of hnd hm
      rw [show (l.getD i (Ty.dflt ty0) : ObjT).1 = s from he, h] at h1
      exact (Option.some.inj h1).symm
    · rw [if_neg (by simpa using he)]
      refine .inl ⟨fun c hc => ?_, by rw [w64_up i (by omega)]⟩
      rw [take_succ l i hi (Ty.dflt ty0)] at hc
      rcases List.mem_append.1 hc with hc | hc
      · exact hI c hc
      · rw [List.mem_singleton.1 hc]; exact he) (fun k hI => by
    rw [List.take_length] at hI
    exact absurd hs (hI o ho)) (n + 1) (by omega)
  obtain ⟨j, h1, h2, h3⟩ := a
  refine ⟨j, h1, h2, ?_⟩
  simp only [slices_IndexFunc_api_Object_api_Object]
  rw [show slices_IndexFunc_api_Object_api_Object_l2 (n + 1) (n + 1) ((l, (), (l.length : Int), 0, ()), ((s, ()), ())) = _ from h3]
theorem oE_len {o : ObjT} (h : OneOk o) : (oE o).length ≤ 900000 := objE_len h.ok
/-- An object's bytes, or what is amiss. -/
theorem Bytes_of {n : Nat} (hn : 5000 ≤ n) {o : ObjT} (h : OneOk o) : ∃ e X, code_Bytes n (((o.1, o.2.1, o.2.2.1, o.2.2.2.1, o.2.2.2.2.1, o.2.2.2.2.2.1, o.2.2.2.2.2.2, ()), ()), ()) = some (((((), ()), (e, ()), ()), ()), (X, ())) ∧ (errNil e = true → X = oE o ∧ OFit o) := by
  obtain ⟨e, X, h1, h2, h3⟩ := bytes_at (n := n) hn o.1 o.2.1 o.2.2.1 o.2.2.2.1 o.2.2.2.2.1 o.2.2.2.2.2.1 o.2.2.2.2.2.2 h.ok h.gd
  exact ⟨e, X, h1, h2⟩
/-- Other objects, alike as to the names. -/
structure Like (l : List ObjT) (N : SL) (l2 : List ObjT) : Prop where
  len : l2.length ≤ 8
  nd : (keys (objs l2)).Nodup
  ag : Ag N (objs l) (objs l2)
theorem link_l9 {n : Nat} (hn : 6000 < n) {l : List ObjT} (hO : ∀ o ∈ l, OneOk o) {root : ByteArray} {N : SL} (hN : Names l root N) (hNl : N.length ≤ 8) (hl : l.length ≤ 8) : ∀ (q i : Nat) (acc : List Int), i + q = N.length → acc.length ≤ 1000 + 1000000 * i →
    (∃ e, errNil e = false ∧ ∀ k, q < k → code_Link_l9 n k ((l, (), (), (N.length : Int), (i : Int), ()), (acc, N, ())) = some (.inr (.inl (((), e, ()), ())))) ∨
    ((∀ s ∈ N.drop i, OFit (ob l s)) ∧ ∀ l2, Like l N l2 → ∀ k, q < k → code_Link_l9 n k ((l2, (), (), (N.length : Int), (i : Int), ()), (acc, N, ())) = some (.inl (((), ()), (acc ++ (N.drop i).flatMap (fun s => oE (ob l s)), ()))) ∧
      code_Link_2_l9 n k (((), (), (), (N.length : Int), (i : Int), ()), (l2, acc, N, ())) = some (.inl (((), ()), (l2, acc ++ (N.drop i).flatMap (fun s => oE (ob l s)), ())))) := by
  intro q
  induction q with
  | zero =>
    intro i acc hi ha
    refine .inr ⟨(fun s hs => by rw [List.drop_of_length_le (by omega)] at hs; cases hs), fun l2 hL k hk => ?_⟩
    obtain ⟨k, rfl⟩ : ∃ m, k = m + 1 := ⟨k - 1, by omega⟩
    rw [List.drop_of_length_le (by omega), List.flatMap_nil, List.append_nil]
    refine ⟨?_, ?_⟩
    · simp only [code_Link_l9]
      rw [if_neg (by simp; omega)]
    · simp only [code_Link_2_l9]
      rw [if_neg (by simp; omega)]
  | succ q ih =>
    intro i acc hi ha
    have hs := getD_mem N i (by omega) (Ty.dflt .str)
    have hdrop : N.drop i = N.getD i (Ty.dflt .str) :: N.drop (i + 1) := by
      rw [List.drop_eq_getElem_cons (show i < N.length by omega), List.getD_eq_getElem?_getD, List.getElem?_eq_getElem (show i < N.length by omega)]
      rfl
    generalize hsd : N.getD i (Ty.dflt .str) = s at hs hdrop
    have hsk := hN.k s hs
    obtain ⟨hom, hon⟩ := ob_in hsk
    have hok := hO _ hom
    have hlen := oE_len hok
    obtain ⟨e, X, hB, hX⟩ := Bytes_of (n := n) (by omega) hok
    generalize hob : ob l s = o at hB hX hok hlen hom hon
    have step : ∀ l2, Like l N l2 → ∃ j : Int, ∀ k, (code_Link_l9 n (k + 1) ((l2, (), (), (N.length : Int), (i : Int), ()), (acc, N, ())) = if !(errNil e) then some (.inr (.inl (((), ErrV.at_ j e, ()), ()))) else if (acc.length + X.length) * 1 ≤ 140737488355328 then code_Link_l9 n k ((l2, (), (), (N.length : Int), ((i + 1 : Nat) : Int), ()), (acc ++ X, N, ())) else none) ∧
        (code_Link_2_l9 n (k + 1) (((), (), (), (N.length : Int), (i : Int), ()), (l2, acc, N, ())) = if !(errNil e) then some (.inr (.inl (((), ErrV.at_ j e, ()), (l2, ())))) else if (acc.length + X.length) * 1 ≤ 140737488355328 then code_Link_2_l9 n k (((), (), (), (N.length : Int), ((i + 1 : Nat) : Int), ()), (l2, acc ++ X, N, ())) else none) := fun l2 hL => by
      have hL1 := hL.len
      have hm2 : mf s (objs l2) = some o := by rw [hL.ag s hs, mf_some hsk, hob]
      obtain ⟨j, hj, ho2, hI⟩ := Index_at (n := n) (by omega) (by omega) hL.nd hm2
      have ho2 : (l2.getD j (Ty.dflt ty0) : ObjT) = o := ho2
      refine ⟨(j : Int), fun k => ⟨?_, ?_⟩⟩
      · simp only [code_Link_l9]
        rw [if_pos (decide_eq_true (show (i : Int) < (N.length : Int) by omega)), if_pos (show 0 ≤ (i : Int) ∧ (i : Int) < (N.length : Int) from ⟨by omega, by omega⟩), rdT_nat, hsd, hI]
        simp only []
        rw [if_pos (show 0 ≤ (j : Int) ∧ (j : Int) < (l2.length : Int) from ⟨by omega, by omega⟩), rdT_nat, show l2.getD j (Ty.dflt ty0) = o from ho2, hB]
        simp only []
        rw [w64_up i (by omega)]
      · simp only [code_Link_2_l9]
        rw [if_pos (decide_eq_true (show (i : Int) < (N.length : Int) by omega)), if_pos (show 0 ≤ (i : Int) ∧ (i : Int) < (N.length : Int) from ⟨by omega, by omega⟩), rdT_nat, hsd, hI]
        simp only []
        rw [if_pos (show 0 ≤ (j : Int) ∧ (j : Int) < (l2.length : Int) from ⟨by omega, by omega⟩), rdT_nat, show l2.getD j (Ty.dflt ty0) = o from ho2, hB]
        simp only []
        rw [w64_up i (by omega)]
    have hself : Like l N l := ⟨hl, hN.nd, fun s _ => rfl⟩
    cases he : errNil e with
    | false =>
      obtain ⟨j, hj⟩ := step l hself
      refine .inl ⟨.at_ j e, rfl, fun k hk => ?_⟩
      obtain ⟨k, rfl⟩ : ∃ m, k = m + 1 := ⟨k - 1, by omega⟩
      rw [(hj k).1, he]
      rfl
    | true =>
      obtain ⟨rfl, hfit⟩ := hX he
      rcases ih (i + 1) (acc ++ oE o) (by omega) (by simp only [List.length_append]; omega) with ⟨e2, he2, h⟩ | ⟨hf, h⟩
      · obtain ⟨j, hj⟩ := step l hself
        refine .inl ⟨e2, he2, fun k hk => ?_⟩
        obtain ⟨k, rfl⟩ : ∃ m, k = m + 1 := ⟨k - 1, by omega⟩
        rw [(hj k).1, he, if_neg (by decide), if_pos (by omega)]
        exact h k (by omega)
      · refine .inr ⟨fun t ht => ?_, fun l2 hL k hk => ?_⟩
        · rw [hdrop] at ht
          rcases List.mem_cons.1 ht with rfl | ht
          · rw [hob]; exact hfit
          · exact hf t ht
        · obtain ⟨k, rfl⟩ : ∃ m, k = m + 1 := ⟨k - 1, by omega⟩
          obtain ⟨j, hj⟩ := step l2 hL
          have h := h l2 hL k (by omega)
          rw [hdrop, List.flatMap_cons, hob, ← List.append_assoc]
          refine ⟨?_, ?_⟩
          · rw [(hj k).1, he, if_neg (by decide), if_pos (by omega)]
            exact h.1
          · rw [(hj k).2, he, if_neg (by decide), if_pos (by omega)]
            exact h.2
theorem Link_at {n : Nat} (hn : 9000 < n) {l : List ObjT} (hO : ∀ o ∈ l, OneOk o) (hl : l.length ≤ 8) (root : ByteArray) (hr : root.size ≤ 60) :
    (∃ e, errNil e = false ∧ code_Link (n + 1) ((root, l, ()), ()) = some (((((), ()), (e, ()), ()), ()), ([], ()))) ∨
    (∃ N, Names l root N ∧ (∀ s ∈ N, OFit (ob l s)) ∧ ∀ l2, Like l N l2 →
      code_Link (n + 1) ((root, l2, ()), ()) = some (((((), ()), (ErrV.nil, ()), ()), ()), (linkE l root N, ())) ∧
      code_Link_2 (n + 1) ((root, (), ()), (l2, ())) = some (((((), ()), (ErrV.nil, ()), ()), ()), (l2, linkE l root N, ())) ∧
      (∃ slots, lay_Of n ((root, l2, ()), ()) = some (((((), ()), (ErrV.nil, ()), ()), ()), (slots, ()))) ∧ lay_Uses n ((root, l2, ()), ()) = some (((((), ()), (ErrV.nil, ()), ()), ()), (N, ()))) := by
  rcases Of_at (n := n) (by omega) hO hl root with ⟨e, he, h⟩ | ⟨N, slots, hN, h⟩
  · refine .inl ⟨e, he, ?_⟩
    simp only [code_Link, h]
    rw [he, if_pos (by decide)]
  · have hNl : N.length ≤ 8 := Nat.le_trans hN.len hl
    have hself : Like l N l := ⟨hl, hN.nd, fun s _ => rfl⟩
    have htl := txt_len root
    have hel := (enc_len (N.length : Int)).2
    have hT : code_text n (((), root, ()), ([], ())) = some (((), ()), ((), txt root, ())) := by
      have := text_at (n := n) (by omega) root [] (by simp; omega)
      simpa using this
    have hP : code_put n (((), (), ()), (txt root, [(N.length : Int)], ())) = some (((), ()), ((), [(N.length : Int)], txt root ++ enc (N.length : Int), ())) := by
      have := cput2_at (n := n) [(N.length : Int)] (by simp; omega) (fun z hz => by rw [List.mem_singleton.1 hz]; exact ⟨by omega, by omega⟩) (txt root) (by simp; omega)
      rw [nums_one] at this
      exact this
    rcases link_l9 (n := n) (by omega) hO hN hNl hl N.length 0 (txt root ++ enc (N.length : Int)) (by omega) (by simp; omega) with ⟨e, he, hL⟩ | ⟨hf, hL⟩
    · refine .inl ⟨e, he, ?_⟩
      obtain ⟨h1, h2⟩ := h l hl hN.nd (fun s _ => rfl)
      simp only [code_Link, h1, h2 n (by omega)]
      rw [if_neg (by decide), if_neg (by decide), hT]
      simp only []
      rw [hP]
      simp only []
      rw [show code_Link_l9 n n ((l, (), (), (N.length : Int), 0, ()), (txt root ++ enc (N.length : Int), N, ())) = _ from hL n (by omega)]
    · refine .inr ⟨N, hN, fun s hs => hf s (by simpa using hs), fun l2 hl2 => ?_⟩
      obtain ⟨h1, h2⟩ := h l2 hl2.len hl2.nd hl2.ag
      have hL := hL l2 hl2 n (by omega)
      have eL : (txt root ++ enc (N.length : Int)) ++ (N.drop 0).flatMap (fun s => oE (ob l s)) = linkE l root N := by
        rw [List.drop_zero, linkE, List.append_assoc]
      rw [eL] at hL
      refine ⟨?_, ?_, ⟨slots, h1⟩, h2 n (by omega)⟩
      · simp only [code_Link, h1, h2 n (by omega)]
        rw [if_neg (by decide), if_neg (by decide), hT]
        simp only []
        rw [hP]
        simp only []
        rw [show code_Link_l9 n n ((l2, (), (), (N.length : Int), 0, ()), (txt root ++ enc (N.length : Int), N, ())) = _ from hL.1]
      · simp only [code_Link_2, h1, h2 n (by omega)]
        rw [if_neg (by decide), if_neg (by decide), hT]
        simp only []
        rw [hP]
        simp only []
        rw [show code_Link_2_l9 n n (((), (), (), (N.length : Int), 0, ()), (l2, txt root ++ enc (N.length : Int), N, ())) = _ from hL.2]
end Go.Proofs.YthllmcijlhlimaaGreatDoor.Pure
