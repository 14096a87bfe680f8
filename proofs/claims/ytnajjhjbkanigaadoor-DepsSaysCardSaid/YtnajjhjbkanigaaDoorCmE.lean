/- Code as plain functions: cells read, written, gathered. By this session. -/
import Derived.Test.YtnajjhjbkanigaaDoorCmD
namespace Go.Proofs.YtnajjhjbkanigaaDoor.Cm
open Go
set_option linter.unusedVariables false
set_option linter.unusedSimpArgs false
section
variable {P : Program} {C : Cfg} {S : Nat → Addr} {w w' : World} {Fz Fz' : Nat → Prop} {gs gs' : List Gh} {tbl tbl' : List Slot}
theorem implode_leaf {t : Ty} {c : Lf} {cs : List Lf} {s : List Slot} {x : t.T} {r : List Lf} {s' : List Slot} (hu : t ≠ .unit) (hp : ∀ a b, t ≠ .pair a b) (h : implode t (c :: cs) s = some (x, r, s')) : asT t c s = some (x, s') ∧ r = cs := by
  cases t <;> first
    | exact absurd rfl hu
    | exact absurd rfl (hp _ _)
    | (simp only [implode] at h
       split at h
       · rename_i y s1 e
         cases h
         exact ⟨e, rfl⟩
       · cases h)
theorem implode_none {t : Ty} {s : List Slot} {q : t.T × List Lf × List Slot} (hu : t ≠ .unit) (hp : ∀ a b, t ≠ .pair a b) (h : implode t [] s = some q) : False := by
  cases t <;> first
    | exact absurd rfl hu
    | exact absurd rfl (hp _ _)
    | (simp [implode] at h)
theorem implode_leaf_ok (n : Nat) {t : Ty} (hu : t ≠ .unit) (hp : ∀ a b, t ≠ .pair a b) {cs : List Lf} {vs : List Value} {x : t.T} {r : List Lf} (rel : Rel C S w Fz gs tbl) (hr : RepLs C S w Fz gs cs vs) (h : implode t cs tbl = some (x, r, tbl')) :
    ∃ Fz' gs' v1 v2, Rel C S w Fz' gs' tbl' ∧ Step n w Fz gs w Fz' gs' ∧ Ext gs gs' ∧ vs = v1 ++ v2 ∧ RepT C S w Fz' t x v1 ∧ RepLs C S w Fz' gs' r v2 := by
  cases cs with
  | nil => exact (implode_none hu hp h).elim
  | cons c cs =>
    obtain ⟨v, vs', rfl, h2, h3⟩ := hr
    obtain ⟨h4, rfl⟩ := implode_leaf hu hp h
    obtain ⟨Fz', gs', h5, h6, h7, h8⟩ := asT_ok rel n h2 h4
    exact ⟨Fz', gs', [v], vs', h5, h6, h7, rfl, h8, h3.fix (h6.fix ⟨_, rel⟩) h7⟩
theorem implode_ok (n : Nat) : ∀ {t : Ty} {cs : List Lf} {vs : List Value} {x : t.T} {r : List Lf} {Fz : Nat → Prop} {gs : List Gh} {tbl tbl' : List Slot}, Rel C S w Fz gs tbl → RepLs C S w Fz gs cs vs → implode t cs tbl = some (x, r, tbl') →
    ∃ Fz' gs' v1 v2, Rel C S w Fz' gs' tbl' ∧ Step n w Fz gs w Fz' gs' ∧ Ext gs gs' ∧ vs = v1 ++ v2 ∧ RepT C S w Fz' t x v1 ∧ RepLs C S w Fz' gs' r v2
  | .unit, cs, vs, x, r, Fz, gs, tbl, tbl', rel, hr, h => by
    simp only [implode] at h
    cases h
    exact ⟨Fz, gs, [], vs, rel, Step.refl _ _ _ _, Ext.refl _, rfl, rfl, hr⟩
  | .pair a b, cs, vs, x, r, Fz, gs, tbl, tbl', rel, hr, h => by
    simp only [implode] at h
    split at h
    · rename_i y cs1 s1 e1
      split at h
      · rename_i z cs2 s2 e2
        cases h
        obtain ⟨F1, g1, v1, v2, r1, s1', x1, rfl, q1, l1⟩ := implode_ok n rel hr e1
        obtain ⟨F2, g2, v3, v4, r2, s2', x2, rfl, q2, l2⟩ := implode_ok n r1 l1 e2
        exact ⟨F2, g2, v1 ++ v3, v4, r2, s1'.trans s2', x1.trans x2, by simp, ⟨v1, v3, rfl, q1.fix (s2'.fix ⟨_, r1⟩), q2⟩, l2⟩
      · cases h
    · cases h
  | .int k, cs, vs, x, r, Fz, gs, tbl, tbl', rel, hr, h => implode_leaf_ok n (by simp) (by simp) rel hr h
  | .bool, cs, vs, x, r, Fz, gs, tbl, tbl', rel, hr, h => implode_leaf_ok n (by simp) (by simp) rel hr h
  | .str, cs, vs, x, r, Fz, gs, tbl, tbl', rel, hr, h => implode_leaf_ok n (by simp) (by simp) rel hr h
  | .err, cs, vs, x, r, Fz, gs, tbl, tbl', rel, hr, h => implode_leaf_ok n (by simp) (by simp) rel hr h
  | .atp, cs, vs, x, r, Fz, gs, tbl, tbl', rel, hr, h => implode_leaf_ok n (by simp) (by simp) rel hr h
  | .slice _ _, cs, vs, x, r, Fz, gs, tbl, tbl', rel, hr, h => implode_leaf_ok n (by simp) (by simp) rel hr h
  | .fl _ _, cs, vs, x, r, Fz, gs, tbl, tbl', rel, hr, h => implode_leaf_ok n (by simp) (by simp) rel hr h
  | .exs _, cs, vs, x, r, Fz, gs, tbl, tbl', rel, hr, h => implode_leaf_ok n (by simp) (by simp) rel hr h
theorem implode1_ok (n : Nat) {t : Ty} {cs : List Lf} {vs : List Value} {x : t.T} (rel : Rel C S w Fz gs tbl) (hr : RepLs C S w Fz gs cs vs) (h : implode1 t cs tbl = some (x, tbl')) :
    ∃ Fz' gs', Rel C S w Fz' gs' tbl' ∧ Step n w Fz gs w Fz' gs' ∧ Ext gs gs' ∧ RepT C S w Fz' t x vs := by
  unfold implode1 at h
  split at h
  · rename_i y s e
    obtain ⟨rfl, rfl⟩ := Prod.mk.inj (Option.some.inj h)
    obtain ⟨F1, g1, v1, v2, r1, s1', x1, rfl, q1, l1⟩ := implode_ok n rel hr e
    rw [show v2 = [] from l1, List.append_nil]
    exact ⟨F1, g1, r1, s1', x1, q1⟩
  · cases h
/-- Cells of several, one by one. -/
def RepLss (C : Cfg) (S : Nat → Addr) (w : World) (Fz : Nat → Prop) (gs : List Gh) : List (List Lf) → List (List Value) → Prop
  | [], vs => vs = []
  | l :: r, vs => ∃ v vs', vs = v :: vs' ∧ RepLs C S w Fz gs l v ∧ RepLss C S w Fz gs r vs'
theorem RepLss.fix (h : Fix w Fz w' Fz') (x : Ext gs gs') : ∀ {ls vs}, RepLss C S w Fz gs ls vs → RepLss C S w' Fz' gs' ls vs
  | [], vs, r => r
  | l :: ls, vs, ⟨v, vs', h1, h2, h3⟩ => ⟨v, vs', h1, h2.fix h x, RepLss.fix h x h3⟩
theorem RepLss.flatten : ∀ {ls : List (List Lf)} {vs}, RepLss C S w Fz gs ls vs → RepLs C S w Fz gs ls.flatten vs.flatten
  | [], vs, r => by rw [show vs = [] from r]; rfl
  | l :: ls, vs, ⟨v, vs', h1, h2, h3⟩ => by rw [h1]; exact h2.append (RepLss.flatten h3)
theorem implodes_ok (n : Nat) {t : Ty} : ∀ {css : List (List Lf)} {vss : List (List Value)} {l : List t.T} {Fz : Nat → Prop} {gs : List Gh} {tbl tbl' : List Slot}, Rel C S w Fz gs tbl → RepLss C S w Fz gs css vss → implodes t css tbl = some (l, tbl') →
    ∃ Fz' gs', Rel C S w Fz' gs' tbl' ∧ Step n w Fz gs w Fz' gs' ∧ Ext gs gs' ∧ Reps (RepT C S w Fz' t) l vss.flatten ∧ l.length = css.length
  | [], vss, l, Fz, gs, tbl, tbl', rel, hr, h => by
    obtain ⟨rfl, rfl⟩ := Prod.mk.inj (Option.some.inj h)
    rw [show vss = [] from hr]
    exact ⟨Fz, gs, rel, Step.refl _ _ _ _, Ext.refl _, rfl, rfl⟩
  | c :: css, vss, l, Fz, gs, tbl, tbl', rel, hr, h => by
    obtain ⟨v, vs', rfl, h2, h3⟩ := hr
    simp only [implodes] at h
    split at h
    · rename_i x s1 e1
      split at h
      · rename_i l2 s2 e2
        obtain ⟨rfl, rfl⟩ := Prod.mk.inj (Option.some.inj h)
        obtain ⟨F1, g1, r1, s1', x1, q1⟩ := implode1_ok n rel h2 e1
        obtain ⟨F2, g2, r2, s2', x2, q2, hl⟩ := implodes_ok n r1 (h3.fix (s1'.fix ⟨_, rel⟩) x1) e2
        exact ⟨F2, g2, r2, s1'.trans s2', x1.trans x2, ⟨v, vs'.flatten, rfl, q1.fix (s2'.fix ⟨_, r1⟩), q2⟩, by simp [hl]⟩
      · cases h
    · cases h

/-! ### reading -/
theorem aggB_run {t : TypeId} {b : Bool} (h : isAggB P t = some b) : (isAgg t).run P w = .ok b w := by
  unfold isAggB at h
  cases hu : P.underlying t with
  | none => rw [hu] at h; simp at h
  | some d =>
    rw [hu] at h
    cases d <;> simp_all [isAgg, run_underlying hu]
theorem sizeT_run {t : TypeId} {n : Nat} (h : sizeT P t = some n) : (sizeOf t).run P w = .ok n w := by
  unfold sizeT at h
  cases hi : P.info? t with
  | none => rw [hi] at h; simp at h
  | some i =>
    rw [hi] at h
    simp only [Option.map_some, Option.some.injEq] at h
    simp [sizeOf, typeInfo, hi, h]
theorem add_add' (a : Addr) (i j : Nat) : (a.add i).add j = a.add (i + j) := by
  unfold Addr.add
  by_cases hi : i = 0
  · subst hi; simp
  · by_cases hj : j = 0
    · subst hj; simp [hi]
    · simp [hi, hj, Nat.add_assoc]
theorem drop_app {α : Type} (c q : List α) (m : Nat) : (c ++ q).drop (c.length + m) = q.drop m := by
  rw [List.drop_append, List.drop_eq_nil_of_le (by omega)]
  simp
theorem take_app {α : Type} (c q : List α) (m : Nat) : (c ++ q).take (c.length + m) = c ++ q.take m := by
  rw [List.take_append, List.take_of_length_le (by omega)]
  simp
theorem loadVar_run {t : TypeId} {e : Ent} {cs : List Lf} {vs : List Value} {off : Nat} {ad : Addr} (hr : RepLs C S w Fz gs cs vs) (hc : ∀ j u, vs[j]? = some u → w.cell? (ad.add j) = some u) (h : readCells P cs off t = some e) :
    ∃ v, (loadVar t (ad.add off)).run P w = .ok v w ∧ RepE C S w Fz gs e v := by
  unfold readCells at h
  split at h
  · rename_i hb
    split at h
    · rename_i n hn
      split at h
      · rename_i hle
        obtain rfl := Option.some.inj h
        have hl := hr.length
        have h1 := run_loadCells_list (P := P) w (ad.add off) ((vs.drop off).take n) (fun j v hj => by
          rw [add_add']
          refine hc (off + j) v ?_
          rw [List.getElem?_take] at hj
          split at hj
          · rwa [List.getElem?_drop] at hj
          · cases hj)
        have h2 : ((vs.drop off).take n).length = n := by simp; omega
        rw [h2] at h1
        refine ⟨_, ?_, _, rfl, (hr.drop off).take n⟩
        simp [loadVar, aggB_run (w := w) hb, sizeT_run (w := w) hn, h1]
      · cases h
    · cases h
  · rename_i hb
    cases hg : cs[off]? with
    | none => rw [hg] at h; cases h
    | some l =>
      rw [hg] at h
      obtain rfl := Option.some.inj h
      obtain ⟨v, h1, h2⟩ := hr.get hg
      exact ⟨v, by simp [loadVar, aggB_run (w := w) hb, hc off v h1], h2⟩
  · cases h

/-! ### one element of several -/
theorem Reps.nth {α : Type} {R : α → List Value → Prop} {n : Nat} (hn : ∀ a c, R a c → c.length = n) (d : α) : ∀ {l : List α} {xs : List Value} (i : Nat), Reps R l xs → i < l.length → R (l.getD i d) ((xs.drop (i * n)).take n)
  | [], xs, i, r, hi => by simp at hi
  | a :: l, xs, 0, ⟨c, q, h1, h2, h3⟩, hi => by
    rw [h1]
    have := hn a c h2
    simp [← this, h2]
  | a :: l, xs, i + 1, ⟨c, q, h1, h2, h3⟩, hi => by
    have hc := hn a c h2
    have := Reps.nth hn d i h3 (by simpa using hi)
    rw [h1]
    have e : (i + 1) * n = c.length + i * n := by rw [hc, Nat.add_mul]; omega
    rw [e, drop_app]
    simpa using this
theorem Reps.append {α : Type} {R : α → List Value → Prop} : ∀ {l1 l2 : List α} {x1 x2 : List Value}, Reps R l1 x1 → Reps R l2 x2 → Reps R (l1 ++ l2) (x1 ++ x2)
  | [], l2, x1, x2, r1, r2 => by rw [show x1 = [] from r1]; exact r2
  | a :: l1, l2, x1, x2, ⟨c, q, h1, h2, h3⟩, r2 => ⟨c, q ++ x2, by rw [h1, List.append_assoc], h2, Reps.append h3 r2⟩
theorem Reps.set {α : Type} {R : α → List Value → Prop} {n : Nat} (hn : ∀ a c, R a c → c.length = n) : ∀ {l : List α} {xs : List Value} (i : Nat) {y : α} {c' : List Value}, Reps R l xs → i < l.length → R y c' → Reps R (l.set i y) (xs.take (i * n) ++ c' ++ xs.drop (i * n + n))
  | [], xs, i, y, c', r, hi, hy => by simp at hi
  | a :: l, xs, 0, y, c', ⟨c, q, h1, h2, h3⟩, hi, hy => by
    have := hn a c h2
    refine ⟨c', q, ?_, hy, h3⟩
    rw [h1, ← this]
    simp
  | a :: l, xs, i + 1, y, c', ⟨c, q, h1, h2, h3⟩, hi, hy => by
    have hc := hn a c h2
    have ih := Reps.set hn i h3 (by simpa using hi) hy
    refine ⟨c, _, ?_, h2, ih⟩
    have e : (i + 1) * n = c.length + i * n := by rw [hc, Nat.add_mul]; omega
    rw [h1, e, take_app, Nat.add_assoc, drop_app]
    simp
theorem Reps.take {α : Type} {R : α → List Value → Prop} {n : Nat} (hn : ∀ a c, R a c → c.length = n) : ∀ {l : List α} {xs : List Value} (i : Nat), Reps R l xs → Reps R (l.take i) (xs.take (i * n))
  | [], xs, i, r => by rw [show xs = [] from r]; simp; rfl
  | a :: l, xs, 0, r => by simp; rfl
  | a :: l, xs, i + 1, ⟨c, q, h1, h2, h3⟩ => by
    have hc := hn a c h2
    have e : (i + 1) * n = c.length + i * n := by rw [hc, Nat.add_mul]; omega
    rw [h1, e, take_app]
    exact ⟨c, _, rfl, h2, Reps.take hn i h3⟩
theorem Reps.drop {α : Type} {R : α → List Value → Prop} {n : Nat} (hn : ∀ a c, R a c → c.length = n) : ∀ {l : List α} {xs : List Value} (i : Nat), Reps R l xs → Reps R (l.drop i) (xs.drop (i * n))
  | [], xs, i, r => by rw [show xs = [] from r]; simp; rfl
  | a :: l, xs, 0, r => by simpa using r
  | a :: l, xs, i + 1, ⟨c, q, h1, h2, h3⟩ => by
    have hc := hn a c h2
    have e : (i + 1) * n = c.length + i * n := by rw [hc, Nat.add_mul]; omega
    rw [h1, e, drop_app]
    exact Reps.drop hn i h3

/-! ### a list that a cell leads to -/
theorem listOf_ok (r : Rel C S w Fz gs tbl) {t : Ty} {l : Lf} {v : Value} {x : List t.T} (hr : RepL C S w Fz gs l v) (hstr : ∀ s, l ≠ .val .str s) (h : listOf t l tbl = some x) :
    ∃ a cap xs, v = .slice a x.length cap ∧ x.length ≤ cap ∧ Reps (RepT C S w Fz t) x xs ∧ (xs = [] ∨ ∃ ad : Addr, a = some ad ∧ ad.spot = none ∧ ∀ j u, xs[j]? = some u → w.cell? (ad.add j) = some u) := by
  unfold listOf at h
  split at h
  · rename_i e t' l
    split at h
    · rename_i he
      subst he
      obtain rfl := Option.some.inj h
      obtain ⟨a, cap, xs, h1, h2, h3, h4⟩ := hr
      simp only [List.cons.injEq, and_true] at h1
      exact ⟨a, cap, xs, h1, h2, h3, h4.imp id (fun ⟨ad, q1, q2, q3, q4⟩ => ⟨ad, q1, q2, q4⟩)⟩
    · cases h
  · rename_i e t' l
    split at h
    · rename_i he
      subst he
      obtain rfl := Option.some.inj h
      obtain ⟨a, cap, xs, h1, h2, h3, h4, _⟩ := hr
      simp only [List.cons.injEq, and_true] at h1
      exact ⟨a, cap, xs, h1, h2, h3, h4.imp id (fun ⟨ad, q1, q2, q3, q4⟩ => ⟨ad, q1, q2, q4⟩)⟩
    · cases h
  · obtain rfl := Option.some.inj h
    obtain ⟨a, rfl, _⟩ := hr
    exact ⟨a, 0, [], rfl, Nat.le_refl _, rfl, .inl rfl⟩
  · rename_i j
    obtain ⟨g, a0, n0, c0, hg, hv0, hv⟩ := hr
    replace hv : v = g.v := hv.trans hv0.symm
    split at h
    · rename_i e' t'' l hj
      split at h
      · rename_i he
        subst he
        obtain rfl := Option.some.inj h
        obtain ⟨a, cap, xs, h2, h3, h4, h5, h6⟩ := r.slot j _ g hj hg
        refine ⟨a, cap, xs, hv.trans h2, h3, h5, ?_⟩
        rcases h6 with ⟨h6, h7, h8⟩ | ⟨b, off, cur, h6, h7, h8, h9, h10⟩
        · subst h7; exact .inl h5
        · subst h7
          rcases arr_lies (Fz := fun _ => True) (e := e') (t := t'') (n := 0) h8 h10 trivial with q | ⟨ad, q1, q2, q3, q4⟩
          · exact .inl q
          · exact .inr ⟨ad, q1, q2, q4⟩
      · cases h
    · rename_i e' t'' l hj
      split at h
      · rename_i he
        subst he
        obtain rfl := Option.some.inj h
        obtain ⟨a, cap, xs, h1, h2, h3, h4⟩ := (r.slot j _ g hj hg).2
        simp only [List.cons.injEq, and_true] at h1
        exact ⟨a, cap, xs, hv.trans h1, h2, h3, h4.imp id (fun ⟨ad, q1, q2, q3, q4⟩ => ⟨ad, q1, q2, q4⟩)⟩
      · cases h
    · cases h
  · rename_i s
    exact absurd rfl (hstr _)
  · cases h
end
end Go.Proofs.YtnajjhjbkanigaaDoor.Cm
