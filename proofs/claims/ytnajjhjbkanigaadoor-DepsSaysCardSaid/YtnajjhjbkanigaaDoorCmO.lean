/- Code as plain functions: what is there, as data of a shape. By this session. -/
import Derived.Test.YtnajjhjbkanigaaDoorCmN
namespace Go.Proofs.YtnajjhjbkanigaaDoor.Cm
open Go
set_option linter.unusedVariables false
set_option linter.unusedSimpArgs false
section
variable {P : Program} {C : Cfg} {S : Nat → Addr} {w : World} {Fz : Nat → Prop} {gs : List Gh} {tbl : List Slot} {R : Type}
def sel (m : List Nat) (gs : List Gh) : List Gh := m.map fun s => gs.getD s default
theorem sel_get {m : List Nat} {gs : List Gh} {i s : Nat} {g : Gh} (h : m[i]? = some s) (hg : gs[s]? = some g) : (sel m gs)[i]? = some g := by
  simp [sel, List.getElem?_map, h, List.getD_eq_getElem?_getD, hg]
theorem sel_of {m : List Nat} {gs : List Gh} (hm : ∀ s ∈ m, s < gs.length) {i : Nat} {g : Gh} (h : (sel m gs)[i]? = some g) : ∃ s, m[i]? = some s ∧ gs[s]? = some g := by
  simp only [sel, List.getElem?_map, Option.map_eq_some_iff] at h
  obtain ⟨s, h1, h2⟩ := h
  have hs := hm s (List.mem_of_getElem? h1)
  refine ⟨s, h1, ?_⟩
  rw [← h2, List.getD_eq_getElem?_getD, List.getElem?_eq_getElem hs]
  rfl
/-- The slots that are met. -/
structure MOk (m : List Nat) (tbl : List Slot) : Prop where
  nodup : m.Nodup
  lt : ∀ s ∈ m, s < tbl.length
theorem pre_get {m m' : List Nat} (h : m <+: m') {i s : Nat} (hi : m[i]? = some s) : m'[i]? = some s := by
  obtain ⟨t, rfl⟩ := h
  rw [List.getElem?_append_left (List.getElem?_eq_some_iff.1 hi).1]
  exact hi
theorem sel_ext {m m' : List Nat} {gs gs' : List Gh} (hm : ∀ s ∈ m, s < gs.length) (h : m <+: m') (x : Ext gs gs') : Ext (sel m gs) (sel m' gs') := by
  intro i g hg
  obtain ⟨s, h1, h2⟩ := sel_of hm hg
  obtain ⟨g', h3, h4⟩ := x s g h2
  exact ⟨g', sel_get (pre_get h h1) h3, h4⟩
/-- What a step of this leaves: the slots met, their ghosts but where they are given up. -/
structure Went (C : Cfg) (S : Nat → Addr) (w : World) (sh : List SSh) (Fz : Nat → Prop) (gs : List Gh) (c : CS) (Fz' : Nat → Prop) (gs' : List Gh) (c' : CS) : Prop where
  rel : Rel C S w Fz' gs' c'.tbl
  step : Step gs.length w Fz gs w Fz' gs'
  pre : c.m <+: c'.m
  ok : MOk c'.m c'.tbl
  same : ∀ (i s : Nat), c.m[i]? = some s → sh[i]? ≠ some .dead → gs'[s]? = gs[s]?
theorem Went.refl {sh : List SSh} {c : CS} (rel : Rel C S w Fz gs c.tbl) (ok : MOk c.m c.tbl) : Went C S w sh Fz gs c Fz gs c := ⟨rel, Step.refl _ _ _ _, List.prefix_refl _, ok, fun _ _ _ _ => rfl⟩
theorem Went.ext {sh : List SSh} {c c' : CS} {Fz' : Nat → Prop} {gs' : List Gh} (h : Went C S w sh Fz gs c Fz' gs' c') : Ext gs gs' := h.step.ext' (Nat.le_refl _)
theorem Went.trans {sh : List SSh} {c c1 c2 : CS} {F1 F2 : Nat → Prop} {g1 g2 : List Gh} (h : Went C S w sh Fz gs c F1 g1 c1) (k : Went C S w sh F1 g1 c1 F2 g2 c2) : Went C S w sh Fz gs c F2 g2 c2 :=
  ⟨k.rel, h.step.trans (k.step.le (ext_le h.ext)), h.pre.trans k.pre, k.ok, fun i s hi hd => (k.same i s (pre_get h.pre hi) hd).trans (h.same i s hi hd)⟩
theorem Went.fix {sh : List SSh} {c c' : CS} {Fz' : Nat → Prop} {gs' : List Gh} (rel : Rel C S w Fz gs c.tbl) (h : Went C S w sh Fz gs c Fz' gs' c') : Fix w Fz w Fz' := h.step.fix ⟨_, rel⟩
theorem MOk.gl {m : List Nat} (ok : MOk m tbl) (rel : Rel C S w Fz gs tbl) : ∀ s ∈ m, s < gs.length := fun s hs => by rw [rel.len]; exact ok.lt s hs
theorem Went.sel {sh : List SSh} {c c' : CS} {Fz' : Nat → Prop} {gs' : List Gh} (rel : Rel C S w Fz gs c.tbl) (ok : MOk c.m c.tbl) (h : Went C S w sh Fz gs c Fz' gs' c') : Ext (sel c.m gs) (sel c'.m gs') := sel_ext (ok.gl rel) h.pre h.ext
theorem link_ok {sh : List SSh} {c c' : CS} (rel : Rel C S w Fz gs c.tbl) (ok : MOk c.m c.tbl) {j s : Nat} (h : c.link j s = some c') : Went C S w sh Fz gs c Fz gs c' ∧ c'.m[j]? = some s ∧ s < gs.length := by
  unfold CS.link at h
  split at h
  · split at h
    · rename_i h1
      obtain rfl := Option.some.inj h
      exact ⟨Went.refl rel ok, h1, ok.gl rel s (List.mem_of_getElem? h1)⟩
    · cases h
  · split at h
    · rename_i h1
      obtain ⟨h1, h2, h3⟩ := h1
      obtain rfl := Option.some.inj h
      refine ⟨⟨rel, Step.refl _ _ _ _, ⟨[s], rfl⟩, ⟨?_, ?_⟩, fun _ _ _ _ => rfl⟩, by simp [h1], by rw [rel.len]; exact h3⟩
      · rw [List.nodup_append]
        exact ⟨ok.nodup, by simp, fun a ha b hb => by obtain rfl := List.mem_singleton.1 hb; rintro rfl; exact h2 ha⟩
      · intro q hq
        rcases List.mem_append.1 hq with hq | hq
        · exact ok.lt q hq
        · obtain rfl := List.mem_singleton.1 hq; exact h3
    · cases h
theorem links_ok {sh : List SSh} : ∀ {js ss : List Nat} {c c' : CS}, Rel C S w Fz gs c.tbl → MOk c.m c.tbl → c.links js ss = some c' → Went C S w sh Fz gs c Fz gs c' ∧ ss.length = js.length ∧ ∀ (i j s : Nat), js[i]? = some j → ss[i]? = some s → c'.m[j]? = some s ∧ s < gs.length
  | [], [], c, c', rel, ok, h => by obtain rfl := Option.some.inj h; exact ⟨Went.refl rel ok, rfl, fun i j s hj => by simp at hj⟩
  | [], _ :: _, c, c', rel, ok, h => by cases h
  | _ :: _, [], c, c', rel, ok, h => by cases h
  | j :: js, s :: ss, c, c', rel, ok, h => by
    simp only [CS.links] at h
    split at h
    · rename_i c1 h1
      obtain ⟨w1, m1, l1⟩ := link_ok (sh := sh) rel ok h1
      obtain ⟨w2, e2, m2⟩ := links_ok (sh := sh) w1.rel w1.ok h
      refine ⟨w1.trans w2, by simp [e2], fun i j' s' hj hs => ?_⟩
      cases i with
      | zero =>
        simp at hj hs
        subst hj; subst hs
        exact ⟨pre_get w2.pre m1, l1⟩
      | succ i => exact m2 i j' s' (by simpa using hj) (by simpa using hs)
    · cases h
theorem nodup_idx : ∀ {l : List Nat} {i j a : Nat}, l.Nodup → l[i]? = some a → l[j]? = some a → i = j
  | [], i, j, a, _, h, _ => by simp at h
  | b :: l, 0, 0, a, _, _, _ => rfl
  | b :: l, 0, j + 1, a, hn, h1, h2 => by
    simp at h1
    subst h1
    exact absurd (List.mem_of_getElem? (by simpa using h2)) (List.nodup_cons.1 hn).1
  | b :: l, i + 1, 0, a, hn, h1, h2 => by
    simp at h2
    subst h2
    exact absurd (List.mem_of_getElem? (by simpa using h1)) (List.nodup_cons.1 hn).1
  | b :: l, i + 1, j + 1, a, hn, h1, h2 => by
    exact congrArg (· + 1) (nodup_idx (List.nodup_cons.1 hn).2 (by simpa using h1) (by simpa using h2))
theorem move_ok {sh : List SSh} {c c' : CS} (rel : Rel C S w Fz gs c.tbl) (ok : MOk c.m c.tbl) {j s : Nat} {g : Gh} (hg : gs[s]? = some g) (h : c.move sh j s = some c') :
    ∃ gs' s' g', Went C S w sh Fz gs c Fz gs' c' ∧ c'.m[j]? = some s' ∧ gs'[s']? = some g' ∧ g'.v = g.v := by
  unfold CS.move at h
  split at h
  · rename_i e t l hd ht
    split at h
    · rename_i hj
      obtain rfl := Option.some.inj h
      have hlen : (gs.set s ⟨g.v, none⟩).length = c.tbl.length := by rw [List.length_set, rel.len]
      have hsl := rel.slot s _ g ht hg
      obtain ⟨r1, s1⟩ := rel.app (w' := w) gs.length hg (.arr e t l) g rfl rfl rfl (Nat.le_refl _) (fun _ _ _ => rfl) (fun b hb => .inl hb) (hsl.fix (Fix.refl _ _) ((ext_set (g := ⟨g.v, none⟩) hg rfl).trans (ext_append _ _)) (fun _ _ => rfl))
      refine ⟨gs.set s ⟨g.v, none⟩ ++ [g], c.tbl.length, g, ⟨r1, s1, ⟨[c.tbl.length], rfl⟩, ⟨?_, ?_⟩, fun i q hi hq => ?_⟩, by simp [hj], last_at hlen g, rfl⟩
      · rw [List.nodup_append]
        refine ⟨ok.nodup, by simp, fun a ha b hb => ?_⟩
        obtain rfl := List.mem_singleton.1 hb
        have := ok.lt a ha
        omega
      · intro q hq
        simp only [List.length_append, List.length_set, List.length_singleton]
        rcases List.mem_append.1 hq with hq | hq
        · have := ok.lt q hq; omega
        · obtain rfl := List.mem_singleton.1 hq; omega
      · have hqs : q ≠ s := by
          rintro rfl
          obtain ⟨i2, h1, h2⟩ := Option.bind_eq_some_iff.1 hd
          have h3 := List.findIdx?_eq_some_iff_getElem.1 h1
          obtain ⟨h4, h5, h6⟩ := h3
          simp only [beq_iff_eq] at h5
          have h7 : c.m[i2]? = some q := by rw [List.getElem?_eq_getElem h4, h5]
          have h8 : i = i2 := by
            exact nodup_idx ok.nodup hi h7
          exact hq (h8 ▸ h2)
        have hql := ok.gl rel q (List.mem_of_getElem? hi)
        rw [List.getElem?_append_left (by simpa using hql), List.getElem?_set_ne (Ne.symm hqs)]
    · cases h
  · cases h
theorem asT0_plain {k : Ty} {l : Lf} {v : Value} {x : k.T} {tbl' : List Slot} (hr : RepL C S w Fz gs l v) (hl : isArr l = none) (h : asT0 k l tbl = some (x, tbl')) : RepT C S w Fz k x [v] := by
  unfold asT0 at h
  split at h
  · split at h
    · rename_i e1
      subst e1
      cases h
      exact hr
    · cases h
  · cases h
    obtain ⟨a0, rfl, _⟩ := hr
    exact ⟨a0, 0, [], rfl, Nat.le_refl _, rfl, .inl rfl⟩
  · cases hl
  · cases h
    obtain ⟨a0, rfl, _⟩ := hr
    exact ⟨a0, 0, [], rfl, Nat.le_refl _, rfl, .inl rfl, fun _ => rfl⟩
  · cases hl
  · cases h
    rw [show v = _ from hr]
    exact .inl ⟨rfl, rfl⟩
  · cases h
theorem asT_plain {k : Ty} {l : Lf} {v : Value} {x : k.T} {tbl' : List Slot} (hr : RepL C S w Fz gs l v) (hl : isArr l = none) (h : asT k l tbl = some (x, tbl')) : RepT C S w Fz k x [v] := by
  cases k with
  | exs e =>
    simp only [asT] at h
    split at h
    · rename_i y s2 h2
      obtain ⟨rfl, rfl⟩ := Prod.mk.inj (Option.some.inj h)
      exact exs_ro (asT0_plain hr hl h2)
    · cases h
  | _ => exact asT0_plain hr hl h
theorem asT0_arr (rel : Rel C S w Fz gs tbl) {k : Ty} {s : Nat} {v : Value} {x : k.T} {tbl' : List Slot} (hr : RepL C S w Fz gs (.arr s) v) (h : asT0 k (.arr s) tbl = some (x, tbl')) :
    ∃ Fz' gs', Rel C S w Fz' gs' tbl' ∧ Step gs.length w Fz gs w Fz' gs' ∧ tbl'.length = tbl.length ∧ (∀ q, q ≠ s → gs'[q]? = gs[q]?) ∧ RepT C S w Fz' k x [v] := by
  obtain ⟨g, a0, n0, c0, hg, hv, rfl⟩ := hr
  cases k with
  | slice e t =>
    simp only [asT0] at h
    split at h
    · rename_i e' t' l0 hj
      split at h
      · rename_i hh
        obtain ⟨rfl, rfl⟩ := hh
        cases h
        obtain ⟨F1, r1, s1, h5⟩ := rel.freeze gs.length hg hj
        exact ⟨F1, _, r1, s1, by simp, fun q hq => List.getElem?_set_ne (Ne.symm hq), by rw [hv] at h5; exact h5⟩
      · cases h
    · rename_i e' t' l0 hj
      split at h
      · rename_i hh
        obtain ⟨rfl, rfl⟩ := hh
        cases h
        have h5 := (rel.slot s _ g hj hg).2
        exact ⟨Fz, gs, rel, Step.refl _ _ _ _, rfl, fun _ _ => rfl, by rw [hv] at h5; exact h5⟩
      · cases h
    · cases h
  | fl e t =>
    simp only [asT0] at h
    split at h
    · rename_i e' t' l0 hj
      split at h
      · rename_i hh
        obtain ⟨rfl, rfl⟩ := hh
        cases h
        obtain ⟨F1, r1, s1, h5⟩ := rel.freeze gs.length hg hj
        obtain ⟨a1, cap, xs, k1, k2, k3, k4⟩ := h5
        exact ⟨F1, _, r1, s1, by simp, fun q hq => List.getElem?_set_ne (Ne.symm hq), a1, cap, xs, by rw [hv] at k1; exact k1, k2, k3, k4, fun e => by cases e⟩
      · cases h
    · rename_i e' t' l0 hj
      split at h
      · rename_i hh
        obtain ⟨rfl, rfl⟩ := hh
        cases h
        have h5 := (rel.slot s _ g hj hg).2
        obtain ⟨a1, cap, xs, k1, k2, k3, k4⟩ := h5
        exact ⟨Fz, gs, rel, Step.refl _ _ _ _, rfl, fun _ _ => rfl, a1, cap, xs, by rw [hv] at k1; exact k1, k2, k3, k4, fun e => by cases e⟩
      · cases h
    · cases h
  | _ => simp [asT0] at h
theorem asT_arr (rel : Rel C S w Fz gs tbl) {k : Ty} {s : Nat} {v : Value} {x : k.T} {tbl' : List Slot} (hr : RepL C S w Fz gs (.arr s) v) (h : asT k (.arr s) tbl = some (x, tbl')) :
    ∃ Fz' gs', Rel C S w Fz' gs' tbl' ∧ Step gs.length w Fz gs w Fz' gs' ∧ tbl'.length = tbl.length ∧ (∀ q, q ≠ s → gs'[q]? = gs[q]?) ∧ RepT C S w Fz' k x [v] := by
  cases k with
  | exs e =>
    simp only [asT] at h
    split at h
    · rename_i y s2 h2
      obtain ⟨rfl, rfl⟩ := Prod.mk.inj (Option.some.inj h)
      obtain ⟨Fz', gs', h3, h4, h5, h6, h7⟩ := asT0_arr rel hr h2
      exact ⟨Fz', gs', h3, h4, h5, h6, exs_ro h7⟩
    · cases h
  | _ => exact asT0_arr rel hr h
theorem confV_ok {sh : List SSh} {k : Ty} {l : Lf} {c c' : CS} {v : Value} {x : k.T} (rel : Rel C S w Fz gs c.tbl) (ok : MOk c.m c.tbl) (hr : RepL C S w Fz gs l v) (h : confV k l c = some (x, c')) :
    ∃ Fz' gs', Went C S w sh Fz gs c Fz' gs' c' ∧ RepL C S w Fz' (sel c'.m gs') (packL (.val k) x) v := by
  unfold confV at h
  split at h
  · rename_i s hl
    have hl' : l = .arr s := by
      unfold isArr at hl
      split at hl
      · rw [Option.some.inj hl]
      · cases hl
    subst hl'
    split at h
    · cases h
    · rename_i hs
      split at h
      · rename_i y tbl' ha
        cases h
        obtain ⟨F1, g1, r1, s1, e1, e2, h5⟩ := asT_arr rel hr ha
        exact ⟨F1, g1, ⟨r1, s1, List.prefix_refl _, ⟨ok.nodup, fun q hq => by rw [e1]; exact ok.lt q hq⟩, fun i q hi _ => e2 q (fun e => hs (e ▸ List.mem_of_getElem? hi))⟩, h5⟩
      · cases h
  · rename_i hl
    split at h
    · rename_i y tbl' ha
      cases h
      exact ⟨Fz, gs, Went.refl rel ok, asT_plain hr hl ha⟩
    · cases h
theorem confL_ok {sh : List SSh} {a : LSh} {l : Lf} {c c' : CS} {v : Value} {x : a.T} (rel : Rel C S w Fz gs c.tbl) (ok : MOk c.m c.tbl) (hr : RepL C S w Fz gs l v) (h : confL sh a l c = some (x, c')) :
    ∃ Fz' gs', Went C S w sh Fz gs c Fz' gs' c' ∧ RepL C S w Fz' (sel c'.m gs') (packL a x) v := by
  unfold confL at h
  split at h
  · exact confV_ok rel ok hr h
  · cases h
    exact ⟨Fz, gs, Went.refl rel ok, trivial⟩
  · split at h
    · rename_i hb
      cases h
      subst hb
      exact ⟨Fz, gs, Went.refl rel ok, hr⟩
    · cases h
  · rename_i j s
    obtain ⟨g, a0, n0, c0, hg, hv, rfl⟩ := hr
    split at h
    · rename_i c1 h1
      cases h
      obtain ⟨w1, m1, l1⟩ := link_ok (sh := sh) rel ok h1
      exact ⟨Fz, gs, w1, g, a0, n0, c0, sel_get m1 hg, hv, rfl⟩
    · rename_i h1
      cases hm : c.move sh j s with
      | none => rw [hm] at h; cases h
      | some c1 =>
        rw [hm] at h
        cases h
        obtain ⟨gs', s', g', w1, m1, l1, hv'⟩ := move_ok rel ok hg hm
        exact ⟨Fz, gs', w1, g', a0, n0, c0, sel_get m1 l1, hv'.trans hv, rfl⟩
  · rename_i j b
    obtain ⟨a0, rfl, _⟩ := hr
    split at h
    · rename_i e t hj
      cases hm : (⟨c.m, c.tbl ++ [.arr e t []]⟩ : CS).link j c.tbl.length with
      | none => rw [hm] at h; cases h
      | some c1 =>
        rw [hm] at h
        cases h
        obtain ⟨r1, s1⟩ := rel.push (More.refl w) gs.length (.arr e t []) ⟨.slice a0 0 0, none⟩ (by simp) ⟨a0, 0, [], rfl, Nat.le_refl _, by simp [maxLen], rfl, .inl ⟨rfl, rfl, rfl⟩⟩
        have ok1 : MOk c.m (c.tbl ++ [.arr e t []]) := ⟨ok.nodup, fun q hq => by have := ok.lt q hq; simp; omega⟩
        obtain ⟨w1, m1, l1⟩ := link_ok (sh := sh) (c := ⟨c.m, c.tbl ++ [.arr e t []]⟩) r1 ok1 hm
        refine ⟨Fz, _, ⟨w1.rel, s1.trans (w1.step.le (by simp)), w1.pre, w1.ok, fun i s hi hd => (w1.same i s hi hd).trans ?_⟩, ⟨.slice a0 0 0, none⟩, a0, 0, 0, sel_get m1 (last_at rel.len _), rfl, rfl⟩
        rw [List.getElem?_append_left (ok.gl rel s (List.mem_of_getElem? hi))]
    · cases h
  · rename_i j o s o'
    split at h
    · rename_i ho
      subst ho
      obtain ⟨g, b, hg, hv, rfl⟩ := hr
      cases hm : c.link j s with
      | none => rw [hm] at h; cases h
      | some c1 =>
        rw [hm] at h
        cases h
        obtain ⟨w1, m1, l1⟩ := link_ok (sh := sh) rel ok hm
        exact ⟨Fz, gs, w1, g, b, sel_get m1 hg, hv, rfl⟩
    · cases h
  · rename_i j z o s z' i o'
    split at h
    · rename_i ho
      obtain ⟨rfl, rfl⟩ := ho
      obtain ⟨g, ad, len, cap, hg, hv, h1, h2, h3, rfl⟩ := hr
      cases hm : c.link j s with
      | none => rw [hm] at h; cases h
      | some c1 =>
        rw [hm] at h
        cases h
        obtain ⟨w1, m1, l1⟩ := link_ok (sh := sh) rel ok hm
        exact ⟨Fz, gs, w1, g, ad, len, cap, sel_get m1 hg, hv, h1, h2, h3, rfl⟩
    · cases h
  · rename_i k o k' y o'
    split at h
    · rename_i hk
      subst hk
      split at h
      · rename_i ho
        subst ho
        cases h
        exact ⟨Fz, gs, Went.refl rel ok, hr⟩
      · cases h
    · cases h
  · rename_i j n s n'
    split at h
    · rename_i ho
      subst ho
      obtain ⟨g, b, hg, hv, rfl⟩ := hr
      cases hm : c.link j s with
      | none => rw [hm] at h; cases h
      | some c1 =>
        rw [hm] at h
        cases h
        obtain ⟨w1, m1, l1⟩ := link_ok (sh := sh) rel ok hm
        exact ⟨Fz, gs, w1, g, b, sel_get m1 hg, hv, rfl⟩
    · cases h
  · cases h
    exact ⟨Fz, gs, Went.refl rel ok, hr⟩
  · rename_i j s
    obtain ⟨g, b, hg, hv, rfl⟩ := hr
    cases hm : c.link j s with
    | none => rw [hm] at h; cases h
    | some c1 =>
      rw [hm] at h
      cases h
      obtain ⟨w1, m1, l1⟩ := link_ok (sh := sh) rel ok hm
      exact ⟨Fz, gs, w1, g, b, sel_get m1 hg, hv, rfl⟩
  · cases h
    exact ⟨Fz, gs, Went.refl rel ok, hr⟩
  · rename_i f cs f' cs'
    split at h
    · rename_i hf
      subst hf
      obtain ⟨vs, rfl, h1, h2⟩ := hr
      cases hm : c.links cs cs' with
      | none => rw [hm] at h; cases h
      | some c1 =>
        rw [hm] at h
        cases h
        obtain ⟨w1, e1, m1⟩ := links_ok (sh := sh) rel ok hm
        refine ⟨Fz, gs, w1, vs, rfl, h1.trans e1, fun i q hq => ?_⟩
        have hi : i < cs'.length := by rw [e1]; exact (List.getElem?_eq_some_iff.1 hq).1
        obtain ⟨g, b, h3, h4, h5⟩ := h2 i _ (List.getElem?_eq_getElem hi)
        exact ⟨g, b, sel_get (m1 i q _ hq (List.getElem?_eq_getElem hi)).1 h3, h4, h5⟩
    · cases h
  · cases h
    exact ⟨Fz, gs, Went.refl rel ok, hr⟩
  · cases h
    exact ⟨Fz, gs, Went.refl rel ok, hr⟩
  · cases h
end
end Go.Proofs.YtnajjhjbkanigaaDoor.Cm
