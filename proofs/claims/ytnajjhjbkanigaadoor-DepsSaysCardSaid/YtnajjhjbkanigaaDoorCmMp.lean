/- Code as plain functions: maps with int keys as the shelf tells of them; maps.Copy, maps.Clone, slices.Sorted of maps.Keys, brought over. By this session. -/
import Derived.Test.YtnajjhjbkanigaaDoorCmFo
import Derived.Test.YtnajjhjbkanigaaDoorCmFs
import Derived.Shelf.SlMaps.Copy
import Derived.Shelf.SlMaps.Clone
import Derived.Shelf.SlIterI.Sorted
namespace Go.Proofs.YtnajjhjbkanigaaDoor.Cm
open Go Go.RowKit Go.Sort Go.Maps
open Go.WideElems (Fit rd rg)
open Go.WideShapes (insert_perm sorted_perm)
open Go.MapKept
set_option linter.unusedVariables false
set_option linter.unusedSimpArgs false
/-- An element's value stands for itself. -/
def heldV : Value → Option (DataW Value × List MemPlace) := fun v => some (.held v, [])
section
variable {C : Cfg} {S : Nat → Addr} {w w' : World} {Fz : Nat → Prop} {P : Program} {vt : Ty} {ag : Bool}
abbrev KI : Ty := .int .i64
/-- Entries as the shelf reads them. -/
def E2 (C : Cfg) (S : Nat → Addr) (w : World) (Fz : Nat → Prop) (vt : Ty) (ag : Bool) : List (Int × vt.T) → List (Lit × DataW Value) → Prop
  | [], l => l = []
  | p :: m, l => ∃ v l', l = (.int .i64 p.1, .held v) :: l' ∧ RepVal C S w Fz ag vt p.2 v ∧ E2 C S w Fz vt ag m l'
def EP (C : Cfg) (S : Nat → Addr) (w : World) (Fz : Nat → Prop) (vt : Ty) (ag : Bool) (m : List (Int × vt.T)) (l : List (Lit × DataW Value)) : Prop := ∃ m', m'.Perm m ∧ E2 C S w Fz vt ag m' l
theorem E2.perm {l l' : List (Lit × DataW Value)} (hp : l.Perm l') : ∀ {m}, E2 C S w Fz vt ag m l → EP C S w Fz vt ag m l' := by
  induction hp with
  | nil => exact fun h => ⟨_, .refl _, h⟩
  | cons x _ ih =>
    intro m h
    cases m with
    | nil => cases h
    | cons p m =>
      obtain ⟨v, l', e, h1, h2⟩ := h
      cases e
      obtain ⟨m', p1, p2⟩ := ih h2
      exact ⟨p :: m', p1.cons _, v, _, rfl, h1, p2⟩
  | swap x y l =>
    intro m h
    cases m with
    | nil => cases h
    | cons p m =>
      obtain ⟨v, l', e, h1, h2⟩ := h
      cases e
      cases m with
      | nil => cases h2
      | cons p2 m =>
        obtain ⟨v2, l2, e, h3, h4⟩ := h2
        cases e
        exact ⟨p2 :: p :: m, .swap _ _ _, v2, _, rfl, h3, v, _, rfl, h1, h4⟩
  | trans _ _ ih1 ih2 =>
    intro m h
    obtain ⟨m1, p1, h1⟩ := ih1 h
    obtain ⟨m2, p2, h2⟩ := ih2 h1
    exact ⟨m2, p2.trans p1, h2⟩
theorem EP.perm {m : List (Int × vt.T)} {l l' : List (Lit × DataW Value)} (h : EP C S w Fz vt ag m l) (hp : l.Perm l') : EP C S w Fz vt ag m l' := by
  obtain ⟨m1, p1, h1⟩ := h
  obtain ⟨m2, p2, h2⟩ := h1.perm hp
  exact ⟨m2, p2.trans p1, h2⟩
theorem E2.filter (k : Int) : ∀ {m : List (Int × vt.T)} {l : List (Lit × DataW Value)}, E2 C S w Fz vt ag m l → E2 C S w Fz vt ag (m.filter fun p => !(p.1 == k)) (l.filter fun p => !p.1.sameKey (.int .i64 k))
  | [], l, h => by rw [show l = [] from h]; rfl
  | p :: m, l, ⟨v, l', e, h1, h2⟩ => by
    subst e
    have e : (Lit.int .i64 p.1).sameKey (.int .i64 k) = (p.1 == k) := by rw [Bool.eq_iff_iff]; simp [Lit.sameKey]
    cases hq : (p.1 == k) with
    | true => simp only [List.filter_cons, hq, e, Bool.not_true, Bool.false_eq_true, if_false]; exact E2.filter k h2
    | false => simp only [List.filter_cons, hq, e, Bool.not_false, if_true]; exact ⟨v, _, rfl, h1, E2.filter k h2⟩
theorem E2.fix {w' : World} {Fz' : Nat → Prop} (fx : Fix w Fz w' Fz') : ∀ {m : List (Int × vt.T)} {l : List (Lit × DataW Value)}, E2 C S w Fz vt ag m l → E2 C S w' Fz' vt ag m l
  | [], l, h => h
  | p :: m, l, ⟨v, l', e, h1, h2⟩ => ⟨v, l', e, h1.fix fx, E2.fix fx h2⟩
theorem E2.keys : ∀ {m : List (Int × vt.T)} {l : List (Lit × DataW Value)}, E2 C S w Fz vt ag m l → l.map (fun p => intOf p.1) = m.map Prod.fst
  | [], l, h => by rw [show l = [] from h]; rfl
  | p :: m, l, ⟨v, l', e, h1, h2⟩ => by
    subst e
    rw [List.map_cons, List.map_cons, E2.keys h2]
    rfl
theorem E2.length : ∀ {m : List (Int × vt.T)} {l : List (Lit × DataW Value)}, E2 C S w Fz vt ag m l → l.length = m.length
  | [], l, h => by rw [show l = [] from h]; rfl
  | p :: m, l, ⟨v, l', e, h1, h2⟩ => by subst e; simp [E2.length h2]
/-- One laid into another. -/
def mergeM {V : Type} (m1 m2 : List (Int × V)) : List (Int × V) := m1.filter (fun p => !m2.any fun q => q.1 == p.1) ++ m2
theorem any_keys {V : Type} {m m' : List (Int × V)} (hp : m.Perm m') (k : Int) : (m.any fun q => q.1 == k) = (m'.any fun q => q.1 == k) := by
  rw [Bool.eq_iff_iff, List.any_eq_true, List.any_eq_true]
  exact ⟨fun ⟨x, h, e⟩ => ⟨x, hp.mem_iff.1 h, e⟩, fun ⟨x, h, e⟩ => ⟨x, hp.mem_iff.2 h, e⟩⟩
theorem mergeM_perm {V : Type} {m1 m1' m2 m2' : List (Int × V)} (h1 : m1.Perm m1') (h2 : m2.Perm m2') : (mergeM m1 m2).Perm (mergeM m1' m2') := by
  unfold mergeM
  have e : (fun p : Int × V => !m2.any fun q => q.1 == p.1) = fun p => !m2'.any fun q => q.1 == p.1 := by funext p; rw [any_keys h2]
  rw [e]
  exact (h1.filter _).append h2
theorem mergeM_nodup {V : Type} {m1 m2 : List (Int × V)} (h1 : (m1.map Prod.fst).Nodup) (h2 : (m2.map Prod.fst).Nodup) : ((mergeM m1 m2).map Prod.fst).Nodup := by
  unfold mergeM
  rw [List.map_append, List.nodup_append]
  refine ⟨((List.filter_sublist (l := m1)).map _).nodup h1, h2, fun a ha b hb e => ?_⟩
  subst e
  obtain ⟨p, hp, rfl⟩ := List.mem_map.1 ha
  obtain ⟨q, hq, e⟩ := List.mem_map.1 hb
  have := (List.mem_filter.1 hp).2
  rw [Bool.not_eq_true', List.any_eq_false] at this
  exact this q hq (by rw [e]; simp)
theorem merge_fold : ∀ {m2 : List (Int × vt.T)} {l2 : List (Lit × DataW Value)} {m1 : List (Int × vt.T)} {l1 : List (Lit × DataW Value)}, E2 C S w Fz vt ag m2 l2 → EP C S w Fz vt ag m1 l1 → (m2.map Prod.fst).Nodup →
    ∃ l, l2.foldl (fun (D : DataW Value) p => D.put p.1 p.2) (.map l1) = .map l ∧ EP C S w Fz vt ag (mergeM m1 m2) l
  | [], l2, m1, l1, h2, h1, _ => by
    rw [show l2 = [] from h2]
    refine ⟨l1, rfl, ?_⟩
    unfold mergeM
    rw [List.filter_eq_self.2 (by simp), List.append_nil]
    exact h1
  | p :: m2, l2, m1, l1, ⟨v, l', e, h3, h4⟩, ⟨m1', p1, h1⟩, hn => by
    subst e
    rw [List.map_cons, List.nodup_cons] at hn
    have step : EP C S w Fz vt ag (p :: m1.filter fun q => !(q.1 == p.1)) (DataW.insert (.int .i64 p.1, .held v) (l1.filter fun q => !q.1.sameKey (.int .i64 p.1))) :=
      EP.perm ⟨p :: m1'.filter fun q => !(q.1 == p.1), (p1.filter _).cons _, v, _, rfl, h3, h1.filter p.1⟩ (insert_perm _ _).symm
    obtain ⟨l, e1, m3, p3, h5⟩ := merge_fold h4 step hn.2
    refine ⟨l, e1, m3, p3.trans ?_, h5⟩
    unfold mergeM
    have e2 : ((p :: m1.filter fun q => !(q.1 == p.1)).filter fun x => !m2.any fun q => q.1 == x.1) = p :: (m1.filter fun x => !(p :: m2).any fun q => q.1 == x.1) := by
      rw [List.filter_cons, if_pos, List.filter_filter]
      · congr 1
        refine List.filter_congr fun x _ => ?_
        rw [List.any_cons, Bool.not_or, Bool.and_comm]
        congr 2
        rw [Bool.eq_iff_iff]
        simp only [beq_iff_eq]
        exact eq_comm
      · rw [Bool.not_eq_true', List.any_eq_false]
        intro q hq e
        exact hn.1 (List.mem_map.2 ⟨q, hq, by simpa using e⟩)
    rw [e2, List.cons_append]
    exact (List.perm_middle).symm
/-- Keys within the numbers of an int. -/
def wfKeys {V : Type} (m : List (Int × V)) : Bool := m.all fun p => (Lit.int .i64 p.1).wf
theorem rd_held {k : TypeId} (hk : P.underlying k = some (.int .i64)) {e : MapEntry} {x : Int} (he : e.key = .int .i64 x) (hw : (Lit.int .i64 x).wf = true) : rd P k heldV e = some (.int .i64 x, .held e.val) := by
  simp [rd, he, keyOf_int_mk hk hw, heldV]
theorem repM_E2 {k : TypeId} (hk : P.underlying k = some (.int .i64)) : ∀ {m : List (Int × vt.T)} {es : List MapEntry}, RepM C S w Fz KI vt ag m es → wfKeys m = true → E2 C S w Fz vt ag m (es.map (rg P k heldV)) ∧ (∀ e ∈ es, ∃ y, rd P k heldV e = some y) ∧ es.map (·.key) = m.map fun p => .int .i64 p.1
  | [], es, h, _ => by rw [show es = [] from h]; exact ⟨rfl, by simp, rfl⟩
  | p :: m, es, ⟨e, es', h1, h2, h3, h4⟩, hw => by
    subst h1
    simp only [wfKeys, List.all_cons, Bool.and_eq_true] at hw
    obtain ⟨i1, i2, i3⟩ := repM_E2 hk h4 hw.2
    have he : e.key = .int .i64 p.1 := by simpa [RepT] using h2
    have hrd := rd_held (P := P) hk he hw.1
    refine ⟨⟨e.val, es'.map (rg P k heldV), by simp [rg, hrd], h3, i1⟩, fun x hx => ?_, by simp [he, i3]⟩
    rcases List.mem_cons.1 hx with rfl | hx
    · exact ⟨_, hrd⟩
    · exact i2 x hx
theorem E2_repM {k : TypeId} (hk : P.underlying k = some (.int .i64)) : ∀ {m : List (Int × vt.T)} {es : List MapEntry}, (∀ e ∈ es, ∃ y, rd P k heldV e = some y) → E2 C S w Fz vt ag m (es.map (rg P k heldV)) → RepM C S w Fz KI vt ag m es
  | [], es, hr, h => by
    have : es.map (rg P k heldV) = [] := h
    rw [List.map_eq_nil_iff] at this
    exact this
  | p :: m, [], hr, h => by obtain ⟨v, l', e, _⟩ := h; cases e
  | p :: m, e :: es, hr, ⟨v, l', h1, h2, h3⟩ => by
    obtain ⟨y, hy⟩ := hr e (.head _)
    simp only [List.map_cons, List.cons.injEq] at h1
    obtain ⟨h1, rfl⟩ := h1
    have hy' := hy
    unfold rd at hy
    simp only [Option.bind_eq_some_iff, Option.map_eq_some_iff, heldV] at hy
    obtain ⟨key, hk1, d, hd, rfl⟩ := hy
    cases hd
    simp only [rg, hy', Option.getD_some, Prod.mk.injEq, DataW.held.injEq] at h1
    obtain ⟨x, hx, hl, _⟩ := keyOf_i64 hk hk1
    rw [hl] at h1
    obtain ⟨h1, rfl⟩ := h1
    have : x = p.1 := by simpa using h1
    subst this
    exact ⟨e, es, rfl, hx.symm ▸ rfl, h2, E2_repM hk (fun e he => hr e (.tail _ he)) h3⟩
/-- A map of one's own, as the shelf says it. -/
theorem owns_of {k : TypeId} (hk : P.underlying k = some (.int .i64)) {m : List (Int × vt.T)} {es : List MapEntry} {clock b : Nat} (hb : w.heap[b]? = some (.map es.toArray clock)) (hr : RepMp C S w Fz KI vt ag m es) (h1 : ∀ e ∈ es, e.born < clock) (h2 : (es.map (·.born)).Nodup)
    (hw : wfKeys m = true) (hlen : m.length ≤ maxLen) : ∃ l, w.ownsMap P k heldV b m.length (.map l) ∧ EP C S w Fz vt ag m l ∧ l.length = m.length := by
  have hl := hr.length
  obtain ⟨m', r1, p1, n1⟩ := hr
  have hw' : wfKeys m' = true := by
    unfold wfKeys at hw ⊢
    rw [List.all_eq_true] at hw ⊢
    exact fun p hp => hw p (p1.mem_iff.1 hp)
  obtain ⟨i1, i2, i3⟩ := repM_E2 hk r1 hw'
  have hnd : (es.map (·.key)).Nodup := by
    rw [i3]
    have : (m'.map fun p => Value.int .i64 p.1) = (m'.map Prod.fst).map (Value.int .i64) := by simp [Function.comp_def]
    rw [this]
    exact List.Pairwise.map _ (fun a b h e => h (by simpa using e)) (((p1.map Prod.fst).nodup_iff).2 n1)
  refine ⟨_, ⟨es.toArray, clock, hb, ⟨by simp; omega, ⟨by simpa using h1, by simpa using h2, by simpa using hnd⟩, by simpa using i2⟩, by simp [hl], rfl⟩, ?_, ?_⟩
  · exact EP.perm ⟨m', p1, i1⟩ (by simpa using (sorted_perm _).symm)
  · rw [(sorted_perm _).length_eq]; simp [hl]
/-- .. and back. -/
theorem of_owns {k : TypeId} (hk : P.underlying k = some (.int .i64)) {m : List (Int × vt.T)} {b n : Nat} {l : List (Lit × DataW Value)} (ho : w.ownsMap P k heldV b n (.map l)) (he : EP C S w Fz vt ag m l) (hn : (m.map Prod.fst).Nodup) :
    ∃ (es : List MapEntry) (clock : Nat), w.heap[b]? = some (.map es.toArray clock) ∧ RepMp C S w Fz KI vt ag m es ∧ (∀ e ∈ es, e.born < clock) ∧ (es.map (·.born)).Nodup := by
  obtain ⟨es, clock, hb, F, hs, hD⟩ := ho
  have hl : l = (es.toList.map (rg P k heldV)).foldr DataW.insert [] := by simpa using hD
  obtain ⟨m', p1, h1⟩ := he.perm (l' := es.toList.map (rg P k heldV)) (by rw [hl]; exact sorted_perm _)
  exact ⟨es.toList, clock, by simpa using hb, ⟨m', E2_repM hk F.reads h1, p1, hn⟩, F.stamped.1, F.stamped.2.1⟩
end

section
variable {P : Program} {C : Cfg} {S : Nat → Addr} {f : FuncId} {vt : Ty} {ag : Bool}
abbrev mapS (vt : Ty) (ag : Bool) : SSh := .map KI vt ag
/-- maps.Copy -/
def copySem (vt : Ty) (ag : Bool) (x : (⟨[.one (.map 0), .one (.map 1)], [mapS vt ag, mapS vt ag]⟩ : Sh).T) : Option (OutsT [(⟨[.tup []], [mapS vt ag, mapS vt ag]⟩ : Sh)]) :=
  if wfKeys (V := vt.T) x.2.1 = true then
    if wfKeys (V := vt.T) x.2.2.1 = true then
      if List.length (α := Int × vt.T) x.2.1 + List.length (α := Int × vt.T) x.2.2.1 ≤ 1099511627776 then some (((), ()), (mergeM (V := vt.T) x.2.1 x.2.2.1, x.2.2.1, ())) else none
    else none
  else none
theorem copy_spec {ty vT : TypeId} (hf : ∃ fn, P.funcs[f]? = some fn ∧ fn.body.isSome = true ∧ (fn.name == "runtime.NumGoroutine") = false) (hk : P.underlying ty = some (.int .i64))
    (h : ∀ (bd bs nd ns : Nat) (Dd Ds : DataW Value) (w : World) (hd : w.ownsMap P ty heldV bd nd Dd) (hs : w.ownsMap P ty heldV bs ns Ds) (hne : bd ≠ bs) (hroom : nd + Maps.size Ds ≤ maxLen),
      Calls P f #[.map (some bd), .map (some bs)] w fun e w' => e = .returned (.tuple #[]) ∧ w'.ownsMap P ty heldV bd (nd + Maps.size Ds) (Lib.mergeD Dd Ds) ∧ w'.ownsMap P ty heldV bs ns Ds ∧ w.grownBy w' (some bd)) :
    SpecOk P C S f ⟨⟨[.one (.map 0), .one (.map 1)], [mapS vt ag, mapS vt ag]⟩, [⟨[.tup []], [mapS vt ag, mapS vt ag]⟩], copySem vt ag⟩ := by
  refine ⟨hf, fun w Fz gs vs x y rel hr hy => ?_⟩
  obtain ⟨⟨⟨⟩, ⟨⟩, ⟨⟩⟩, ⟨m1, m2, ⟨⟩⟩⟩ := x
  change List (Int × vt.T) at m1 m2
  simp only [copySem] at hy
  split at hy
  · rename_i hw1
    split at hy
    · rename_i hw2
      split at hy
      · rename_i hlen
        obtain rfl := Option.some.inj hy
        obtain ⟨v0, vs, rfl, hv0, v1, vs1, rfl, hv1, rfl⟩ := hr
        obtain ⟨g0, b0, hg0, hgv0, rfl⟩ := hv0
        obtain ⟨g1, b1, hg1, hgv1, rfl⟩ := hv1
        obtain ⟨b0', es0, c0, q1, q2, q3, q4, q5, q6⟩ := rel.slot 0 (.map KI vt ag m1) g0 rfl hg0
        obtain ⟨b1', es1, c1, u1, u2, u3, u4, u5, u6⟩ := rel.slot 1 (.map KI vt ag m2) g1 rfl hg1
        rw [hgv0] at q1
        rw [hgv1] at u1
        obtain rfl : b0 = b0' := by simpa using q1
        obtain rfl : b1 = b1' := by simpa using u1
        have hne : b0 ≠ b1 := fun e => absurd (rel.apart 0 1 g0 g1 b0 hg0 hg1 q2 (by rw [u2, e])) (by decide)
        have hlen : m1.length + m2.length ≤ 1099511627776 := hlen
        have hmx : (1099511627776 : Nat) ≤ maxLen := by simp [maxLen]
        obtain ⟨l0, o0, e0, _⟩ := owns_of hk q3 q4 q5 q6 hw1 (by omega)
        obtain ⟨l1, o1, e1, n1⟩ := owns_of hk u3 u4 u5 u6 hw2 (by omega)
        refine (h b0 b1 _ _ _ _ w o0 o1 hne (by show m1.length + l1.length ≤ _; omega)).mono fun ev w' ⟨j1, j2, j3, j4⟩ => ?_
        obtain ⟨m2', p2, e1'⟩ := e1
        have hnd2 : (m2.map Prod.fst).Nodup := by obtain ⟨_, _, _, h⟩ := u4; exact h
        have hnd1 : (m1.map Prod.fst).Nodup := by obtain ⟨_, _, _, h⟩ := q4; exact h
        obtain ⟨l, el, m3, p3, h3⟩ := merge_fold e1' e0 (((p2.map Prod.fst).nodup_iff).2 hnd2)
        have hD : Lib.mergeD (.map l0) (.map l1) = .map l := el
        rw [hD] at j2
        have hb0 : b0 < w.heap.size := (Array.getElem?_eq_some_iff.1 q3).1
        have fx : Fix w Fz w' Fz := ⟨fun _ h => h, fun q hq => j4.block q (rel.fz q hq) (fun e => (rel.own 0 g0 b0 hg0 q2).2 (by cases e; exact hq))⟩
        obtain ⟨es', clock', z1, z2, z3, z4⟩ := of_owns (C := C) (S := S) (Fz := Fz) (ag := ag) (m := mergeM m1 m2) hk j2 ⟨m3, p3.trans (mergeM_perm (.refl _) p2), h3.fix fx⟩ (mergeM_nodup hnd1 hnd2)
        -- a world between: grown, the block as it was
        obtain ⟨w1, hw1e⟩ : ∃ w1 : World, w1 = { w' with heap := w'.heap.setIfInBounds b0 (.map es0.toArray c0) } := ⟨_, rfl⟩
        have hz := MapKept.heap_set (o' := .map es0.toArray c0) z1
        have hw1h : w1.heap = w'.heap.setIfInBounds b0 (.map es0.toArray c0) := by rw [hw1e]
        have m1w : More w w1 := ⟨by rw [hw1e]; exact j4.os, by rw [hw1e]; exact j4.tape, by rw [hw1e]; exact j4.output, by rw [hw1h]; simpa using j4.size, fun b hb => by
          rw [hw1h]
          by_cases e : b = b0
          · subst e; rw [hz.1, q3]
          · rw [hz.2 b e]; exact j4.block b hb (by simpa using e)⟩
        obtain ⟨r1, s1⟩ := rel.more m1w gs.length
        have hback : ∀ b, g0.own ≠ some b → w'.heap[b]? = w1.heap[b]? := fun b hb => by
          rw [hw1h, hz.2 b (fun e => hb (by rw [q2, e]))]
        obtain ⟨r2, s2⟩ := r1.upd (w' := w') (Fz' := Fz) gs.length hg0 (.map KI vt ag (mergeM m1 m2)) g0 rfl (.inr rfl) (by rw [hw1e]) (by rw [hw1e]) (by rw [hw1e]) (by rw [hw1h]; simp) hback (fun _ h => h) (fun _ h => .inl h)
          ⟨b0, es', clock', hgv0, q2, z1, z2, z3, z4⟩
        refine ⟨_, Fz, _, .tup [], j1, r2, rfl, ⟨[], rfl, rfl⟩, (s1.trans s2).le ?_⟩
        rw [rel.len]
        exact Nat.le_refl 2
      · cases hy
    · cases hy
  · cases hy
/-- maps.Clone -/
def cloneSem (kt vt : Ty) (ag : Bool) (x : (⟨[.one (.map 0)], [.map kt vt ag]⟩ : Sh).T) : Option (OutsT [(⟨[.one (.map 1)], [.map kt vt ag, .map kt vt ag]⟩ : Sh)]) := some (((), ()), (x.2.1, x.2.1, ()))
theorem mclone_spec {kt : Ty} (hf : ∃ fn, P.funcs[f]? = some fn ∧ fn.body.isSome = true ∧ (fn.name == "runtime.NumGoroutine") = false)
    (h : ∀ (b : Nat) (es : Array MapEntry) (clock : Nat) (w : World) (hb : w.heap[b]? = some (.map es clock)), Calls P f #[.map (some b)] w fun e w' => e = .returned (.map (some w.heap.size)) ∧ w' = w.alloc (.map es clock)) :
    SpecOk P C S f ⟨⟨[.one (.map 0)], [.map kt vt ag]⟩, [⟨[.one (.map 1)], [.map kt vt ag, .map kt vt ag]⟩], cloneSem kt vt ag⟩ := by
  refine ⟨hf, fun w Fz gs vs x y rel hr hy => ?_⟩
  obtain ⟨⟨⟨⟩, ⟨⟩⟩, ⟨m1, ⟨⟩⟩⟩ := x
  change List (kt.T × vt.T) at m1
  obtain rfl := Option.some.inj hy
  obtain ⟨v0, vs, rfl, hv0, rfl⟩ := hr
  obtain ⟨g0, b0, hg0, hgv0, rfl⟩ := hv0
  obtain ⟨b0', es0, c0, q1, q2, q3, q4, q5, q6⟩ := rel.slot 0 (.map kt vt ag m1) g0 rfl hg0
  rw [hgv0] at q1
  obtain rfl : b0 = b0' := by simpa using q1
  refine (h b0 es0.toArray c0 w q3).mono fun ev w' ⟨j1, j2⟩ => ?_
  subst j2
  have mw := More.alloc w (.map es0.toArray c0)
  obtain ⟨r1, s1⟩ := rel.push mw 1 (.map kt vt ag m1) ⟨.map (some w.heap.size), some w.heap.size⟩ (fun b h => by obtain rfl := Option.some.inj h; simp)
    ⟨w.heap.size, es0, c0, rfl, rfl, heap_new _ _, q4.fix (mw.fix rel), q5, q6⟩
  refine ⟨_, Fz, _, .one (.map 1), j1, r1, rfl, ⟨⟨.map (some w.heap.size), some w.heap.size⟩, w.heap.size, ?_, rfl, rfl⟩, s1⟩
  have hgl : gs.length = 1 := rel.len
  rw [List.getElem?_append_right (by omega), hgl]
  rfl
/-- slices.Sorted of maps.Keys -/
def insZ (x : Int) : List Int → List Int
  | [] => [x]
  | y :: r => if x ≤ y then x :: y :: r else y :: insZ x r
def sortZ : List Int → List Int
  | [] => []
  | x :: r => insZ x (sortZ r)
theorem insZ_perm (x : Int) : ∀ l, (insZ x l).Perm (x :: l)
  | [] => .refl _
  | y :: r => by
    unfold insZ
    split
    · exact .refl _
    · exact ((insZ_perm x r).cons y).trans (.swap _ _ _)
theorem sortZ_perm : ∀ l, (sortZ l).Perm l
  | [] => .refl _
  | x :: r => (insZ_perm x _).trans ((sortZ_perm r).cons x)
theorem insZ_sorted (x : Int) : ∀ l : List Int, l.Pairwise (· ≤ ·) → (insZ x l).Pairwise (· ≤ ·)
  | [], _ => by simp [insZ]
  | y :: r, h => by
    have h0 := List.pairwise_cons.1 h
    unfold insZ
    split
    · rename_i hxy
      refine List.pairwise_cons.2 ⟨fun z hz => ?_, h⟩
      rcases List.mem_cons.1 hz with rfl | hz
      · exact hxy
      · exact Int.le_trans hxy (h0.1 z hz)
    · rename_i hxy
      refine List.pairwise_cons.2 ⟨fun z hz => ?_, insZ_sorted x r h0.2⟩
      rcases List.mem_cons.1 ((insZ_perm x r).mem_iff.1 hz) with rfl | hz
      · omega
      · exact h0.1 z hz
theorem sortZ_sorted : ∀ l : List Int, (sortZ l).Pairwise (· ≤ ·)
  | [] => .nil
  | x :: r => insZ_sorted x _ (sortZ_sorted r)
theorem mergeSort_sortZ {l l' : List Int} (hp : l.Perm l') : l.mergeSort (fun x y => decide (x ≤ y)) = sortZ l' := by
  have tr : ∀ a b c : Int, leI a b = true → leI b c = true → leI a c = true := fun a b c h1 h2 => by simp only [leI, decide_eq_true_eq] at *; exact Int.le_trans h1 h2
  have to : ∀ a b : Int, (leI a b || leI b a) = true := fun a b => by simp only [leI, Bool.or_eq_true, decide_eq_true_eq]; exact Int.le_total a b
  refine List.Perm.eq_of_pairwise (le := fun a b => a ≤ b) (fun a b _ _ h1 h2 => Int.le_antisymm h1 h2) ?_ (sortZ_sorted l') (((List.mergeSort_perm l leI).trans hp).trans (sortZ_perm l').symm)
  exact (List.pairwise_mergeSort tr to l).imp (fun h => by simpa [leI] using h)
abbrev keysI (mt : TypeId) (vt : Ty) (ag : Bool) (g : FuncId) : Sh := ⟨[.one (.fn g [0])], [.obj mt [.map 1], mapS vt ag]⟩
abbrev keysO (mt e : TypeId) (vt : Ty) (ag : Bool) : Sh := ⟨[.one (.arr 2)], [.obj mt [.map 1], mapS vt ag, .arr e KI]⟩
def sortedSem (mt e : TypeId) (vt : Ty) (ag : Bool) (g : FuncId) (x : (keysI mt vt ag g).T) : Option (OutsT [keysO mt e vt ag]) :=
  if wfKeys (V := vt.T) x.2.2.1 = true then
    if List.length (α := Int × vt.T) x.2.2.1 ≤ 1099511627776 then some (((), ()), (x.2.1, x.2.2.1, sortZ (List.map Prod.fst (show List (Int × vt.T) from x.2.2.1)), ())) else none
  else none
theorem ints_reps {w : World} {Fz : Nat → Prop} : ∀ l : List Int, Reps (RepT C S w Fz KI) l (l.map encZ)
  | [] => rfl
  | x :: l => ⟨[.int .i64 x], _, rfl, rfl, ints_reps l⟩
theorem sorted_spec {mt e ty : TypeId} {g : FuncId} (hf : ∃ fn, P.funcs[f]? = some fn ∧ fn.body.isSome = true ∧ (fn.name == "runtime.NumGoroutine") = false) (hk : P.underlying ty = some (.int .i64))
    (h : ∀ (Bm b nn : Nat) (D0 : DataW Value) (w : World) (hBm : Bm < w.heap.size) (hm : w.cell? ⟨Bm, 0, none⟩ = some (.map (some b))) (hown : w.ownsMap P ty heldV b nn D0) (hN : Maps.size D0 ≤ 1099511627776),
      Calls P f #[.func (.func g) #[] #[.pointer (some ⟨Bm, 0, none⟩)]] w fun ev W' => ∃ (v : Value) (ss : List Int), ev = .returned v ∧ ss.Perm (intKeys D0) ∧
        W'.ownsRow w.heap.size e 1 v ss.length ((ss.mergeSort (fun x y => decide (x ≤ y))).map encZ) ∧ (v = .slice none 0 0 ↔ ss = []) ∧ Below w.heap.size w W') :
    SpecOk P C S f ⟨keysI mt vt ag g, [keysO mt e vt ag], sortedSem mt e vt ag g⟩ := by
  refine ⟨hf, fun w Fz gs vs x y rel hr hy => ?_⟩
  obtain ⟨⟨⟨⟩, ⟨⟩⟩, ⟨⟨⟨⟩, ⟨⟩⟩, m, ⟨⟩⟩⟩ := x
  change List (Int × vt.T) at m
  simp only [sortedSem] at hy
  split at hy
  · rename_i hw1
    split at hy
    · rename_i hlen
      have hlen : m.length ≤ 1099511627776 := hlen
      obtain rfl := Option.some.inj hy
      obtain ⟨v1, vs1, rfl, hv1, rfl⟩ := hr
      obtain ⟨cv, rfl, hcl, hcap⟩ := hv1
      obtain ⟨g0, b, hg0, hgv, hcv⟩ := hcap 0 0 rfl
      match cv, hcl, hcv with
      | [c0], _, hcv =>
        obtain rfl : c0 = .pointer (some ⟨b, 0, none⟩) := by simpa using hcv
        obtain ⟨b', cs, q1, q2, q3, q4⟩ := rel.slot 0 (.obj mt [.map 1]) g0 rfl hg0
        rw [hgv] at q1
        obtain rfl : b = b' := by simpa using q1
        obtain ⟨sv, cs', rfl, ⟨g1, b1, hg1, hgv1, rfl⟩, rfl⟩ := q4
        obtain ⟨b1', es, clock, u1, u2, u3, u4, u5, u6⟩ := rel.slot 1 (.map KI vt ag m) g1 rfl hg1
        rw [hgv1] at u1
        obtain rfl : b1 = b1' := by simpa using u1
        have hbl : b < w.heap.size := (Array.getElem?_eq_some_iff.1 q3).1
        have hc0 : w.cell? ⟨b, 0, none⟩ = some (.map (some b1)) := by simp [World.cell?, q3]
        have hmx : (1099511627776 : Nat) ≤ maxLen := by simp [maxLen]
        obtain ⟨l, o1, e1, n1⟩ := owns_of hk u3 u4 u5 u6 hw1 (by omega)
        refine (h b b1 _ _ w hbl hc0 o1 (by show l.length ≤ _; omega)).mono fun ev w' ⟨v, ss, j1, j2, j3, j5, j4⟩ => ?_
        obtain ⟨m', p1, e1'⟩ := e1
        have hperm : ss.Perm (m.map Prod.fst) := by
          have hk1 : intKeys (.map l) = m'.map Prod.fst := e1'.keys
          rw [hk1] at j2
          exact j2.trans (p1.map _)
        have hsl : ss.length = (sortZ (m.map Prod.fst)).length := by rw [hperm.length_eq, (sortZ_perm _).length_eq]
        rw [mergeSort_sortZ hperm, hsl] at j3
        have hgl : gs.length = 2 := rel.len
        have fin : ∀ g' : Gh, (gs ++ [g'])[2]? = some g' := fun g' => by rw [List.getElem?_append_right (by omega), hgl]; rfl
        rcases j3.2 with ⟨k1, k2⟩ | ⟨gb, cap', cur, k1, k2, k3, k4, k5, k6, k7⟩
        · have hl0 : sortZ (m.map Prod.fst) = [] := List.eq_nil_of_length_eq_zero (by omega)
          obtain ⟨r1, s1⟩ := rel.push (below_more j4) 2 (.arr e KI (sortZ (m.map Prod.fst))) ⟨.slice none 0 0, none⟩ (fun b h => by cases h) (by rw [hl0]; exact ⟨none, 0, [], rfl, Nat.le_refl _, by simp [maxLen], rfl, .inl ⟨rfl, rfl, rfl⟩⟩)
          exact ⟨v, Fz, _, .one (.arr 2), j1, r1, rfl, ⟨⟨.slice none 0 0, none⟩, none, 0, 0, fin _, rfl, k1⟩, s1⟩
        · subst k1
          obtain ⟨r1, s1⟩ := rel.push (below_more j4) 2 (.arr e KI (sortZ (m.map Prod.fst))) ⟨.slice (some ⟨gb, 0, none⟩) (sortZ (m.map Prod.fst)).length cap', some gb⟩ (fun q hq => by obtain rfl := Option.some.inj hq; exact ⟨k2, (Array.getElem?_eq_some_iff.1 k3).1⟩)
            ⟨some ⟨gb, 0, none⟩, cap', (sortZ (m.map Prod.fst)).map encZ, rfl, k4, k5, ints_reps _, .inr ⟨gb, 0, cur, rfl, rfl, k3, by simp [Ty.size]; omega, by simpa [Ty.size] using k7⟩⟩
          exact ⟨_, Fz, _, .one (.arr 2), j1, r1, rfl, ⟨⟨.slice (some ⟨gb, 0, none⟩) (sortZ (m.map Prod.fst)).length cap', some gb⟩, some ⟨gb, 0, none⟩, _, cap', fin _, rfl, rfl⟩, s1⟩
    · cases hy
  · cases hy
end
end Go.Proofs.YtnajjhjbkanigaaDoor.Cm
