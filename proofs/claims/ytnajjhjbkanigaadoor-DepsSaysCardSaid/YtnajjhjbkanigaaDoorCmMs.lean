/- Code as plain functions: maps with string keys as the shelf tells of them; slices.Sorted of maps.Keys, brought over. By this session. -/
import Derived.Test.YtnajjhjbkanigaaDoorCmMp
import Derived.Shelf.SlIter.Sorted
namespace Go.Proofs.YtnajjhjbkanigaaDoor.Cm
open Go Go.RowKit Go.Sort Go.Maps
open Go.WideElems (Fit rd rg)
open Go.WideShapes (insert_perm sorted_perm)
open Go.WideMaps (keyOf_string_mk)
open Go.MapKept
set_option linter.unusedVariables false
set_option linter.unusedSimpArgs false
section
variable {C : Cfg} {S : Nat → Addr} {w w' : World} {Fz : Nat → Prop} {P : Program} {vt : Ty} {ag : Bool}
abbrev KS : Ty := .str
/-- Entries as the shelf reads them. -/
def E2S (C : Cfg) (S : Nat → Addr) (w : World) (Fz : Nat → Prop) (vt : Ty) (ag : Bool) : List (ByteArray × vt.T) → List (Lit × DataW Value) → Prop
  | [], l => l = []
  | p :: m, l => ∃ v l', l = (.string p.1.data.toList, .held v) :: l' ∧ RepVal C S w Fz ag vt p.2 v ∧ E2S C S w Fz vt ag m l'
def EPS (C : Cfg) (S : Nat → Addr) (w : World) (Fz : Nat → Prop) (vt : Ty) (ag : Bool) (m : List (ByteArray × vt.T)) (l : List (Lit × DataW Value)) : Prop := ∃ m', m'.Perm m ∧ E2S C S w Fz vt ag m' l
theorem E2S.perm {l l' : List (Lit × DataW Value)} (hp : l.Perm l') : ∀ {m}, E2S C S w Fz vt ag m l → EPS C S w Fz vt ag m l' := by
  induction hp with
  | nil => exact fun h => ⟨_, .refl _, h⟩
  | cons x _ ih =>
    intro m h
    cases m with
    | nil => cases h
    | cons p m =>
      obtain ⟨v, l', e, h1, h2⟩ := h
      cases e
      obtain ⟨m', p1, p2⟩ := ih h2
      exact ⟨p :: m', p1.cons _, v, _, rfl, h1, p2⟩
  | swap x y l =>
    intro m h
    cases m with
    | nil => cases h
    | cons p m =>
      obtain ⟨v, l', e, h1, h2⟩ := h
      cases e
      cases m with
      | nil => cases h2
      | cons p2 m =>
        obtain ⟨v2, l2, e, h3, h4⟩ := h2
        cases e
        exact ⟨p2 :: p :: m, .swap _ _ _, v2, _, rfl, h3, v, _, rfl, h1, h4⟩
  | trans _ _ ih1 ih2 =>
    intro m h
    obtain ⟨m1, p1, h1⟩ := ih1 h
    obtain ⟨m2, p2, h2⟩ := ih2 h1
    exact ⟨m2, p2.trans p1, h2⟩
theorem EPS.perm {m : List (ByteArray × vt.T)} {l l' : List (Lit × DataW Value)} (h : EPS C S w Fz vt ag m l) (hp : l.Perm l') : EPS C S w Fz vt ag m l' := by
  obtain ⟨m1, p1, h1⟩ := h
  obtain ⟨m2, p2, h2⟩ := h1.perm hp
  exact ⟨m2, p2.trans p1, h2⟩
theorem E2S.fix {w' : World} {Fz' : Nat → Prop} (fx : Fix w Fz w' Fz') : ∀ {m : List (ByteArray × vt.T)} {l : List (Lit × DataW Value)}, E2S C S w Fz vt ag m l → E2S C S w' Fz' vt ag m l
  | [], l, h => h
  | p :: m, l, ⟨v, l', e, h1, h2⟩ => ⟨v, l', e, h1.fix fx, E2S.fix fx h2⟩
theorem E2S.keys : ∀ {m : List (ByteArray × vt.T)} {l : List (Lit × DataW Value)}, E2S C S w Fz vt ag m l → strKeys (.map l) = (m.map Prod.fst).map fun q : ByteArray => q.data.toList
  | [], l, h => by rw [show l = [] from h]; rfl
  | p :: m, l, ⟨v, l', e, h1, h2⟩ => by
    subst e
    have := E2S.keys h2
    simp only [strKeys, List.map_cons] at this ⊢
    rw [this]
    rfl
theorem E2S.length : ∀ {m : List (ByteArray × vt.T)} {l : List (Lit × DataW Value)}, E2S C S w Fz vt ag m l → l.length = m.length
  | [], l, h => by rw [show l = [] from h]; rfl
  | p :: m, l, ⟨v, l', e, h1, h2⟩ => by subst e; simp [E2S.length h2]
/-- Keys within a string's length. -/
def wfKeysS {V : Type} (m : List (ByteArray × V)) : Bool := m.all fun p => decide (p.1.size ≤ 1099511627776)
theorem rdS_held {k : TypeId} (hk : P.underlying k = some .string) {e : MapEntry} {x : ByteArray} (he : e.key = .string x) (hw : x.size ≤ 1099511627776) : rd P k heldV e = some (.string x.data.toList, .held e.val) := by
  have hx : x.size ≤ maxLen := Nat.le_trans hw (by simp [maxLen])
  simp [rd, he, keyOf_string_mk hk hx, heldV]
theorem repM_E2S {k : TypeId} (hk : P.underlying k = some .string) : ∀ {m : List (ByteArray × vt.T)} {es : List MapEntry}, RepM C S w Fz KS vt ag m es → wfKeysS m = true → E2S C S w Fz vt ag m (es.map (rg P k heldV)) ∧ (∀ e ∈ es, ∃ y, rd P k heldV e = some y) ∧ es.map (·.key) = m.map fun p => .string p.1
  | [], es, h, _ => by rw [show es = [] from h]; exact ⟨rfl, by simp, rfl⟩
  | p :: m, es, ⟨e, es', h1, h2, h3, h4⟩, hw => by
    subst h1
    simp only [wfKeysS, List.all_cons, Bool.and_eq_true] at hw
    obtain ⟨i1, i2, i3⟩ := repM_E2S hk h4 hw.2
    have he : e.key = .string p.1 := by simpa [RepT] using h2
    have hrd := rdS_held (P := P) hk he (of_decide_eq_true hw.1)
    refine ⟨⟨e.val, es'.map (rg P k heldV), by simp [rg, hrd], h3, i1⟩, fun x hx => ?_, by simp [he, i3]⟩
    rcases List.mem_cons.1 hx with rfl | hx
    · exact ⟨_, hrd⟩
    · exact i2 x hx
/-- A map of one's own, as the shelf says it. -/
theorem ownsS_of {k : TypeId} (hk : P.underlying k = some .string) {m : List (ByteArray × vt.T)} {es : List MapEntry} {clock b : Nat} (hb : w.heap[b]? = some (.map es.toArray clock)) (hr : RepMp C S w Fz KS vt ag m es) (h1 : ∀ e ∈ es, e.born < clock) (h2 : (es.map (·.born)).Nodup)
    (hw : wfKeysS m = true) (hlen : m.length ≤ maxLen) : ∃ l, w.ownsMap P k heldV b m.length (.map l) ∧ EPS C S w Fz vt ag m l ∧ l.length = m.length := by
  have hl := hr.length
  obtain ⟨m', r1, p1, n1⟩ := hr
  have hw' : wfKeysS m' = true := by
    unfold wfKeysS at hw ⊢
    rw [List.all_eq_true] at hw ⊢
    exact fun p hp => hw p (p1.mem_iff.1 hp)
  obtain ⟨i1, i2, i3⟩ := repM_E2S hk r1 hw'
  have hnd : (es.map (·.key)).Nodup := by
    rw [i3]
    have : (m'.map fun p => Value.string p.1) = (m'.map Prod.fst).map Value.string := by simp [Function.comp_def]
    rw [this]
    exact List.Pairwise.map _ (fun a b h e => h (by simpa using e)) (((p1.map Prod.fst).nodup_iff).2 n1)
  refine ⟨_, ⟨es.toArray, clock, hb, ⟨by simp; omega, ⟨by simpa using h1, by simpa using h2, by simpa using hnd⟩, by simpa using i2⟩, by simp [hl], rfl⟩, ?_, ?_⟩
  · exact EPS.perm ⟨m', p1, i1⟩ (by simpa using (sorted_perm _).symm)
  · rw [(sorted_perm _).length_eq]; simp [hl]
end
section
variable {P : Program} {C : Cfg} {S : Nat → Addr} {f : FuncId} {vt : Ty} {ag : Bool}
abbrev mapSS (vt : Ty) (ag : Bool) : SSh := .map KS vt ag
theorem mergeSort_sortS {l : List (List UInt8)} {l' : List ByteArray} (hp : l.Perm (l'.map fun q : ByteArray => q.data.toList)) : l.mergeSort (fun x y => decide (x ≤ y)) = (sortS l').map fun q : ByteArray => q.data.toList := by
  obtain ⟨h1, h2⟩ := sortS_spec l'
  have h3 := List.pairwise_mergeSort (le := fun x y : List UInt8 => decide (x ≤ y)) (fun a b c h1 h2 => by simp only [decide_eq_true_eq] at *; exact List.le_trans h1 h2) (fun a b => by simp only [Bool.or_eq_true, decide_eq_true_eq]; exact List.le_total a b) l
  refine List.Perm.eq_of_pairwise (le := fun x y : List UInt8 => x ≤ y) (fun a b _ _ ha hb => List.le_antisymm ha hb) ?_ h2 (((List.mergeSort_perm _ _).trans hp).trans h1.symm)
  simpa using h3
abbrev keysSI (mt : TypeId) (vt : Ty) (ag : Bool) (g : FuncId) : Sh := ⟨[.one (.fn g [0])], [.obj mt [.map 1], mapSS vt ag]⟩
abbrev keysSO (mt e : TypeId) (vt : Ty) (ag : Bool) : Sh := ⟨[.one (.arr 2)], [.obj mt [.map 1], mapSS vt ag, .arr e .str]⟩
def sortedSSem (mt e : TypeId) (vt : Ty) (ag : Bool) (g : FuncId) (x : (keysSI mt vt ag g).T) : Option (OutsT [keysSO mt e vt ag]) :=
  if wfKeysS (V := vt.T) x.2.2.1 = true then
    if List.length (α := ByteArray × vt.T) x.2.2.1 ≤ 1099511627776 then some (((), ()), (x.2.1, x.2.2.1, sortS (List.map Prod.fst (show List (ByteArray × vt.T) from x.2.2.1)), ())) else none
  else none
theorem sortedS_spec {mt e ty : TypeId} {g : FuncId} (hf : ∃ fn, P.funcs[f]? = some fn ∧ fn.body.isSome = true ∧ (fn.name == "runtime.NumGoroutine") = false) (hk : P.underlying ty = some .string)
    (h : ∀ (Bm b nn : Nat) (D0 : DataW Value) (w : World) (hBm : Bm < w.heap.size) (hm : w.cell? ⟨Bm, 0, none⟩ = some (.map (some b))) (hown : w.ownsMap P ty heldV b nn D0) (hN : Maps.size D0 ≤ 1099511627776),
      Calls P f #[.func (.func g) #[] #[.pointer (some ⟨Bm, 0, none⟩)]] w fun ev W' => ∃ (v : Value) (ss : List (List UInt8)), ev = .returned v ∧ ss.Perm (strKeys D0) ∧
        W'.ownsRow w.heap.size e 1 v ss.length ((ss.mergeSort (fun x y => decide (x ≤ y))).map encStr) ∧ (v = .slice none 0 0 ↔ ss = []) ∧ Below w.heap.size w W') :
    SpecOk P C S f ⟨keysSI mt vt ag g, [keysSO mt e vt ag], sortedSSem mt e vt ag g⟩ := by
  refine ⟨hf, fun w Fz gs vs x y rel hr hy => ?_⟩
  obtain ⟨⟨⟨⟩, ⟨⟩⟩, ⟨⟨⟨⟩, ⟨⟩⟩, m, ⟨⟩⟩⟩ := x
  change List (ByteArray × vt.T) at m
  simp only [sortedSSem] at hy
  split at hy
  · rename_i hw1
    split at hy
    · rename_i hlen
      have hlen : m.length ≤ 1099511627776 := hlen
      obtain rfl := Option.some.inj hy
      obtain ⟨v1, vs1, rfl, hv1, rfl⟩ := hr
      obtain ⟨cv, rfl, hcl, hcap⟩ := hv1
      obtain ⟨g0, b, hg0, hgv, hcv⟩ := hcap 0 0 rfl
      match cv, hcl, hcv with
      | [c0], _, hcv =>
        obtain rfl : c0 = .pointer (some ⟨b, 0, none⟩) := by simpa using hcv
        obtain ⟨b', cs, q1, q2, q3, q4⟩ := rel.slot 0 (.obj mt [.map 1]) g0 rfl hg0
        rw [hgv] at q1
        obtain rfl : b = b' := by simpa using q1
        obtain ⟨sv, cs', rfl, ⟨g1, b1, hg1, hgv1, rfl⟩, rfl⟩ := q4
        obtain ⟨b1', es, clock, u1, u2, u3, u4, u5, u6⟩ := rel.slot 1 (.map KS vt ag m) g1 rfl hg1
        rw [hgv1] at u1
        obtain rfl : b1 = b1' := by simpa using u1
        have hbl : b < w.heap.size := (Array.getElem?_eq_some_iff.1 q3).1
        have hc0 : w.cell? ⟨b, 0, none⟩ = some (.map (some b1)) := by simp [World.cell?, q3]
        have hmx : (1099511627776 : Nat) ≤ maxLen := by simp [maxLen]
        obtain ⟨l, o1, e1, n1⟩ := ownsS_of hk u3 u4 u5 u6 hw1 (by omega)
        refine (h b b1 _ _ w hbl hc0 o1 (by show l.length ≤ _; omega)).mono fun ev w' ⟨v, ss, j1, j2, j3, j5, j4⟩ => ?_
        obtain ⟨m', p1, e1'⟩ := e1
        have hperm : ss.Perm ((m.map Prod.fst).map fun q : ByteArray => q.data.toList) := by
          have hk1 : strKeys (.map l) = (m'.map Prod.fst).map fun q : ByteArray => q.data.toList := e1'.keys
          rw [hk1] at j2
          exact j2.trans ((p1.map _).map _)
        have hsl : ss.length = (sortS (m.map Prod.fst)).length := by rw [hperm.length_eq, List.length_map]; have h0 := (sortS_spec (m.map Prod.fst)).1.length_eq; rw [List.length_map, List.length_map] at h0; exact h0.symm
        rw [mergeSort_sortS hperm, hsl, enc_back] at j3
        have hgl : gs.length = 2 := rel.len
        have fin : ∀ g' : Gh, (gs ++ [g'])[2]? = some g' := fun g' => by rw [List.getElem?_append_right (by omega), hgl]; rfl
        rcases j3.2 with ⟨k1, k2⟩ | ⟨gb, cap', cur, k1, k2, k3, k4, k5, k6, k7⟩
        · have hl0 : sortS (m.map Prod.fst) = [] := List.eq_nil_of_length_eq_zero (by omega)
          obtain ⟨r1, s1⟩ := rel.push (below_more j4) 2 (.arr e .str (sortS (m.map Prod.fst))) ⟨.slice none 0 0, none⟩ (fun b h => by cases h) (by rw [hl0]; exact ⟨none, 0, [], rfl, Nat.le_refl _, by simp [maxLen], rfl, .inl ⟨rfl, rfl, rfl⟩⟩)
          exact ⟨v, Fz, _, .one (.arr 2), j1, r1, rfl, ⟨⟨.slice none 0 0, none⟩, none, 0, 0, fin _, rfl, k1⟩, s1⟩
        · subst k1
          obtain ⟨r1, s1⟩ := rel.push (below_more j4) 2 (.arr e .str (sortS (m.map Prod.fst))) ⟨.slice (some ⟨gb, 0, none⟩) (sortS (m.map Prod.fst)).length cap', some gb⟩ (fun q hq => by obtain rfl := Option.some.inj hq; exact ⟨k2, (Array.getElem?_eq_some_iff.1 k3).1⟩)
            ⟨some ⟨gb, 0, none⟩, cap', (sortS (m.map Prod.fst)).map Value.string, rfl, k4, k5, strs_reps _, .inr ⟨gb, 0, cur, rfl, rfl, k3, by simp [Ty.size]; omega, by simpa [Ty.size] using k7⟩⟩
          exact ⟨_, Fz, _, .one (.arr 2), j1, r1, rfl, ⟨⟨.slice (some ⟨gb, 0, none⟩) (sortS (m.map Prod.fst)).length cap', some gb⟩, some ⟨gb, 0, none⟩, _, cap', fin _, rfl, rfl⟩, s1⟩
    · cases hy
  · cases hy
end
end Go.Proofs.YtnajjhjbkanigaaDoor.Cm
