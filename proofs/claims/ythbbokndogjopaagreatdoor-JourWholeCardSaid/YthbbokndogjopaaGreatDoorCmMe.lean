/- Code as plain functions: maps.Equal of maps from strings to strings, brought over. By this session. -/
import Derived.Test.YthbbokndogjopaaGreatDoorCmMs
import Derived.Lib.SlMapEqual
namespace Go.Proofs.YthbbokndogjopaaGreatDoor.Cm
open Go Go.RowKit Go.Sort Go.Maps
open Go.WideElems (Fit rd rg)
open Go.WideShapes (insert_perm sorted_perm)
open Go.WideMaps (keyOf_string_mk)
open Go.MapKept
set_option linter.unusedVariables false
set_option linter.unusedSimpArgs false
/-- A text as the shelf reads it. -/
def strR : Value → Option (DataW Unit × List MemPlace)
  | .string s => some (.lit (.string s.data.toList), [])
  | _ => none
def eqd3 : DataW Unit → DataW Unit → Bool
  | .lit (.string x), .lit (.string y) => decide (x = y)
  | _, _ => false
theorem neq_str {P : Program} {e : TypeId} (he : P.underlying e = some .string) (W : World) (x y : Value) (xd yd : DataW Unit) (xp yp : List MemPlace) (hx : strR x = some (xd, xp)) (hy : strR y = some (yd, yp)) :
    (binOp .neq e x y).run P W = .ok (.bool (!eqd3 xd yd)) W ∧ ∀ (a b : Operand), (eqGuard .neq e a b x y).run P W = .ok () W := by
  obtain ⟨a, rfl⟩ : ∃ a, x = .string a := by cases x <;> first | exact ⟨_, rfl⟩ | cases hx
  obtain ⟨b, rfl⟩ : ∃ a, y = .string a := by cases y <;> first | exact ⟨_, rfl⟩ | cases hy
  simp only [strR, Option.some.injEq, Prod.mk.injEq] at hx hy
  obtain ⟨rfl, -⟩ := hx
  obtain ⟨rfl, -⟩ := hy
  refine ⟨?_, fun _ _ => by rw [eqGuard_at_string]; rfl⟩
  have hab : (a.toList == b.toList) = decide (a.data.toList = b.data.toList) := by
    rw [toListD, toListD]
    by_cases h : a.data.toList = b.data.toList
    · rw [decide_eq_true h]; exact beq_iff_eq.2 h
    · rw [decide_eq_false h]; exact beq_false_of_ne h
  have hrun : (binOp .neq e (.string a) (.string b)) = Op.stringOp .neq a b := rfl
  rw [hrun]
  unfold Op.stringOp
  simp only [hab, eqd3]
  rfl
/-- Are two maps the same? -/
def equalM (m1 m2 : List (ByteArray × ByteArray)) : Bool := decide (m1.length = m2.length) && m1.all fun p => match mfind (keyEq (.str : Ty)) p.1 m2 with | some v => strEq p.2 v | none => false
def enc3 (m : List (ByteArray × ByteArray)) : List (Lit × DataW Unit) := m.map fun p => (.string p.1.data.toList, .lit (.string p.2.data.toList))
theorem ba_ext {a b : ByteArray} (h : a.data.toList = b.data.toList) : a = b := by
  cases a; cases b
  congr 1
  exact Array.toList_inj.1 h
theorem equal_perm {l1 l2 : List (Lit × DataW Unit)} {m1 m2 : List (ByteArray × ByteArray)} (p1 : l1.Perm (enc3 m1)) (p2 : l2.Perm (enc3 m2)) (n2 : (m2.map Prod.fst).Nodup) : Lib.equalFuncD eqd3 (.map l1) (.map l2) = equalM m1 m2 := by
  have hap : l2.Pairwise (fun p q => p.1 ≠ q.1) := by
    have h : (l2.map Prod.fst).Nodup := by
      refine (p2.map Prod.fst).nodup_iff.2 ?_
      have e : (enc3 m2).map Prod.fst = (m2.map Prod.fst).map fun k => Lit.string k.data.toList := by simp [enc3, Function.comp_def]
      rw [e]
      exact List.Pairwise.map _ (fun a b h e => h (ba_ext (by simpa using e))) n2
    exact List.pairwise_map.1 h
  have hone : ∀ p : ByteArray × ByteArray, Lib.goodD eqd3 (.map l2) (.string p.1.data.toList, .lit (.string p.2.data.toList)) = (match mfind (keyEq (.str : Ty)) p.1 m2 with | some v => strEq p.2 v | none => false) := by
    intro p
    unfold Lib.goodD
    cases hf : mfind (keyEq (.str : Ty)) p.1 m2 with
    | some v =>
      have hm : (p.1, v) ∈ m2 := by
        clear p2 hap
        induction m2 with
        | nil => cases hf
        | cons q r ih =>
          have hf : (if keyEq (.str : Ty) p.1 q.1 then some q.2 else mfind (keyEq (.str : Ty)) p.1 r) = some v := hf
          by_cases e : keyEq (.str : Ty) p.1 q.1 = true
          · rw [if_pos e] at hf
            have := (keyS_true p.1 q.1).1 e
            cases hf
            rw [this]
            exact .head _
          · rw [if_neg e] at hf
            exact .tail _ (ih (List.nodup_cons.1 n2).2 hf)
      have hm2 : (Lit.string p.1.data.toList, DataW.lit (.string v.data.toList)) ∈ l2 := p2.mem_iff.2 (List.mem_map.2 ⟨_, hm, rfl⟩)
      rw [WideAt.atKey_mem .nil (by trivial) hap hm2]
      have hh : Maps.has (DataW.map l2) (Lit.string p.1.data.toList) = true := List.any_eq_true.2 ⟨_, hm2, WideAt.sameKey_self (by trivial)⟩
      rw [hh, Bool.true_and]
      show decide (p.2.data.toList = v.data.toList) = strEq p.2 v
      unfold strEq
      by_cases h : p.2.data.toList = v.data.toList
      · rw [decide_eq_true h]; exact (beq_iff_eq.2 h).symm
      · rw [decide_eq_false h]; exact (beq_false_of_ne h).symm
    | none =>
      have hh : Maps.has (DataW.map l2) (Lit.string p.1.data.toList) = false := by
        show l2.any _ = false
        rw [List.any_eq_false]
        intro q hq hs
        have hk := WideAt.sameKey_eq hs
        obtain ⟨r, hr, rfl⟩ := List.mem_map.1 (p2.mem_iff.1 hq)
        have hr1 : r.1 = p.1 := ba_ext (by simpa using hk)
        clear p2 hap
        induction m2 with
        | nil => cases hr
        | cons a t ih =>
          have hf : (if keyEq (.str : Ty) p.1 a.1 then some a.2 else mfind (keyEq (.str : Ty)) p.1 t) = none := hf
          by_cases e : keyEq (.str : Ty) p.1 a.1 = true
          · rw [if_pos e] at hf; cases hf
          · rw [if_neg e] at hf
            rcases List.mem_cons.1 hr with rfl | hr
            · exact e ((keyS_true _ _).2 hr1.symm)
            · exact ih (List.nodup_cons.1 n2).2 hf hr
      rw [hh]
      rfl
  unfold Lib.equalFuncD equalM
  have hs : (Maps.size (DataW.map l1) = Maps.size (DataW.map l2)) = (m1.length = m2.length) := by
    show (l1.length = l2.length) = _
    rw [p1.length_eq, p2.length_eq]
    simp [enc3]
  rw [show decide (Maps.size (DataW.map l1) = Maps.size (DataW.map l2)) = decide (m1.length = m2.length) by simp only [hs]]
  congr 1
  show l1.all _ = _
  rw [p1.all_eq]
  unfold enc3
  rw [List.all_map]
  congr 1
  funext p
  exact hone p
section
variable {C : Cfg} {S : Nat → Addr} {w : World} {Fz : Nat → Prop} {P : Program}
theorem repM_E3 {k : TypeId} (hk : P.underlying k = some .string) : ∀ {m : List (ByteArray × ByteArray)} {es : List MapEntry}, RepM C S w Fz KS .str false m es → wfKeysS (V := ByteArray) m = true → es.map (rg P k strR) = enc3 m ∧ (∀ e ∈ es, ∃ y, rd P k strR e = some y) ∧ es.map (·.key) = m.map fun p => .string p.1
  | [], es, h, _ => by rw [show es = [] from h]; exact ⟨rfl, by simp, rfl⟩
  | p :: m, es, ⟨e, es', h1, h2, h3, h4⟩, hw => by
    subst h1
    simp only [wfKeysS, List.all_cons, Bool.and_eq_true] at hw
    obtain ⟨i1, i2, i3⟩ := repM_E3 hk h4 hw.2
    have he : e.key = .string p.1 := by simpa [RepT] using h2
    have hv : e.val = .string p.2 := by
      rcases h3 with ⟨h, -⟩ | ⟨-, h⟩
      · cases h
      · simpa [RepT] using h
    have hx : p.1.size ≤ maxLen := Nat.le_trans (of_decide_eq_true hw.1) (by simp [maxLen])
    have hrd : rd P k strR e = some (.string p.1.data.toList, .lit (.string p.2.data.toList)) := by
      simp [rd, he, keyOf_string_mk hk hx, hv, strR]
    refine ⟨by simp [rg, hrd, i1, enc3], fun x hx => ?_, by simp [he, i3]⟩
    rcases List.mem_cons.1 hx with rfl | hx
    · exact ⟨_, hrd⟩
    · exact i2 x hx
theorem owns3_of {k : TypeId} (hk : P.underlying k = some .string) {m : List (ByteArray × ByteArray)} {es : List MapEntry} {clock b : Nat} (hb : w.heap[b]? = some (.map es.toArray clock)) (hr : RepMp C S w Fz KS .str false m es) (h1 : ∀ e ∈ es, e.born < clock) (h2 : (es.map (·.born)).Nodup)
    (hw : wfKeysS (V := ByteArray) m = true) (hlen : m.length ≤ maxLen) : ∃ l m', w.ownsMap P k strR b m.length (.map l) ∧ l.Perm (enc3 m') ∧ m'.Perm m := by
  have hl := hr.length
  obtain ⟨m', r1, p1, n1⟩ := hr
  have hw' : wfKeysS (V := ByteArray) m' = true := by
    unfold wfKeysS at hw ⊢
    rw [List.all_eq_true] at hw ⊢
    exact fun p hp => hw p (p1.mem_iff.1 hp)
  obtain ⟨i1, i2, i3⟩ := repM_E3 hk r1 hw'
  have hnd : (es.map (·.key)).Nodup := by
    rw [i3]
    have : (m'.map fun p => Value.string p.1) = (m'.map Prod.fst).map Value.string := by simp [Function.comp_def]
    rw [this]
    exact List.Pairwise.map _ (fun a b h e => h (by simpa using e)) (((p1.map Prod.fst).nodup_iff).2 n1)
  refine ⟨_, m', ⟨es.toArray, clock, hb, ⟨by simp; omega, ⟨by simpa using h1, by simpa using h2, by simpa using hnd⟩, by simpa using i2⟩, by simp [hl], rfl⟩, ?_, p1⟩
  rw [← i1]
  simpa using sorted_perm _
end
section
variable {P : Program} {C : Cfg} {S : Nat → Addr} {f : FuncId}
abbrev equalI : Sh := ⟨[.one (.map 0), .one (.map 1)], [.map .str .str false, .map .str .str false]⟩
abbrev equalO : Sh := ⟨[.one (.val .bool)], [.map .str .str false, .map .str .str false]⟩
def equalSem (x : equalI.T) : Option (OutsT [equalO]) :=
  if wfKeysS (V := ByteArray) x.2.1 = true then
    if wfKeysS (V := ByteArray) x.2.2.1 = true then
      if List.length (α := ByteArray × ByteArray) x.2.1 ≤ 1099511627776 then
        if List.length (α := ByteArray × ByteArray) x.2.2.1 ≤ 1099511627776 then some ((equalM x.2.1 x.2.2.1, ()), (x.2.1, x.2.2.1, ())) else none
      else none
    else none
  else none
theorem equalM_perm {m1 m1' m2 m2' : List (ByteArray × ByteArray)} (p1 : m1.Perm m1') (p2 : m2.Perm m2') (n2 : (m2.map Prod.fst).Nodup) : equalM m1 m2 = equalM m1' m2' := by
  have n2' : (m2'.map Prod.fst).Nodup := ((p2.map Prod.fst).nodup_iff).1 n2
  have h := equal_perm (l1 := enc3 m1) (l2 := enc3 m2) (.refl _) (.refl _) n2
  have h2 := equal_perm (l1 := enc3 m1) (l2 := enc3 m2) (m1 := m1') (m2 := m2') (p1.map _) (p2.map _) n2'
  exact h.symm.trans h2
theorem equal_spec {ty : TypeId} (hf : ∃ fn, P.funcs[f]? = some fn ∧ fn.body.isSome = true ∧ (fn.name == "runtime.NumGoroutine") = false) (hk : P.underlying ty = some .string)
    (h : ∀ (b1 b2 n1 n2 : Nat) (D1 D2 : DataW Unit) (w : World) (h1 : w.ownsMap P ty strR b1 n1 D1) (h2 : w.ownsMap P ty strR b2 n2 D2),
      Calls P f #[.map (some b1), .map (some b2)] w fun e w' => e = .returned (.bool (Lib.equalFuncD eqd3 D1 D2)) ∧ w.grownBy w' none) :
    SpecOk P C S f ⟨equalI, [equalO], equalSem⟩ := by
  refine ⟨hf, fun w Fz gs vs x y rel hr hy => ?_⟩
  obtain ⟨⟨⟨⟩, ⟨⟩, ⟨⟩⟩, ⟨m1, m2, ⟨⟩⟩⟩ := x
  change List (ByteArray × ByteArray) at m1 m2
  simp only [equalSem] at hy
  split at hy
  · rename_i hw1
    split at hy
    · rename_i hw2
      split at hy
      · rename_i hl1
        split at hy
        · rename_i hl2
          obtain rfl := Option.some.inj hy
          obtain ⟨v0, vs, rfl, hv0, v1, vs1, rfl, hv1, rfl⟩ := hr
          obtain ⟨g0, b0, hg0, hgv0, rfl⟩ := hv0
          obtain ⟨g1, b1, hg1, hgv1, rfl⟩ := hv1
          obtain ⟨b0', es0, c0, q1, q2, q3, q4, q5, q6⟩ := rel.slot 0 (.map KS .str false m1) g0 rfl hg0
          obtain ⟨b1', es1, c1, u1, u2, u3, u4, u5, u6⟩ := rel.slot 1 (.map KS .str false m2) g1 rfl hg1
          rw [hgv0] at q1
          rw [hgv1] at u1
          obtain rfl : b0 = b0' := by simpa using q1
          obtain rfl : b1 = b1' := by simpa using u1
          have hl1 : m1.length ≤ 1099511627776 := hl1
          have hl2 : m2.length ≤ 1099511627776 := hl2
          have hmx : (1099511627776 : Nat) ≤ maxLen := by simp [maxLen]
          have hnd2 : (m2.map Prod.fst).Nodup := by obtain ⟨_, _, _, h⟩ := u4; exact h
          obtain ⟨l0, m1', o0, e0, p0⟩ := owns3_of hk q3 q4 q5 q6 hw1 (by omega)
          obtain ⟨l1, m2', o1, e1, p1⟩ := owns3_of hk u3 u4 u5 u6 hw2 (by omega)
          have hnd2' : (m2'.map Prod.fst).Nodup := ((p1.map Prod.fst).nodup_iff).2 hnd2
          have hD : Lib.equalFuncD eqd3 (.map l0) (.map l1) = equalM m1 m2 := (equal_perm e0 e1 hnd2').trans (equalM_perm p0 p1 hnd2')
          refine (h b0 b1 _ _ _ _ w o0 o1).mono fun ev w' ⟨j1, j2⟩ => ?_
          rw [hD] at j1
          have mw : More w w' := ⟨j2.os, j2.tape, j2.output, j2.size, fun b hb => j2.block b hb (by simp)⟩
          obtain ⟨r1, s1⟩ := rel.more mw 2
          exact ⟨_, Fz, gs, .one (.val .bool (equalM m1 m2)), j1, r1, rfl, by simp [RepE, RepV, RepL, RepT], s1⟩
        · cases hy
      · cases hy
    · cases hy
  · cases hy
end
end Go.Proofs.YthbbokndogjopaaGreatDoor.Cm
