/- Code as plain functions: all that is there, as data of a shape. By this session. -/
import Derived.Test.YtnajjhjbkanigaaDoorCmO
namespace Go.Proofs.YtnajjhjbkanigaaDoor.Cm
open Go
set_option linter.unusedVariables false
set_option linter.unusedSimpArgs false
section
variable {P : Program} {C : Cfg} {S : Nat → Addr} {w : World} {R : Type}
theorem confLs_ok {sh : List SSh} : ∀ {hs : List LSh} {ls : List Lf} {vs : List Value} {c c' : CS} {x : LShs.T hs} {Fz : Nat → Prop} {gs : List Gh}, Rel C S w Fz gs c.tbl → MOk c.m c.tbl → RepLs C S w Fz gs ls vs → confLs sh hs ls c = some (x, c') →
    ∃ Fz' gs', Went C S w sh Fz gs c Fz' gs' c' ∧ RepLs C S w Fz' (sel c'.m gs') (packLs hs x) vs
  | [], [], vs, c, c', x, Fz, gs, rel, ok, hr, h => by cases h; exact ⟨Fz, gs, Went.refl rel ok, hr⟩
  | [], _ :: _, vs, c, c', x, Fz, gs, rel, ok, hr, h => by cases h
  | _ :: _, [], vs, c, c', x, Fz, gs, rel, ok, hr, h => by cases h
  | a :: hs, l :: ls, vs, c, c', x, Fz, gs, rel, ok, ⟨v, vs', h1, h2, h3⟩, h => by
    simp only [confLs] at h
    split at h
    · rename_i y c1 e1
      split at h
      · rename_i z c2 e2
        cases h
        obtain ⟨F1, g1, w1, r1⟩ := confL_ok rel ok h2 e1
        obtain ⟨F2, g2, w2, r2⟩ := confLs_ok w1.rel w1.ok (h3.fix (w1.fix rel) w1.ext) e2
        exact ⟨F2, g2, w1.trans w2, v, vs', h1, r1.fix (w2.fix w1.rel) (w2.sel w1.rel w1.ok), r2⟩
      · cases h
    · cases h
theorem confLs_len {sh : List SSh} : ∀ {hs : List LSh} {ls : List Lf} {c c' : CS} {x : LShs.T hs}, confLs sh hs ls c = some (x, c') → ls.length = hs.length
  | [], [], c, c', x, h => rfl
  | [], _ :: _, c, c', x, h => by cases h
  | _ :: _, [], c, c', x, h => by cases h
  | a :: hs, l :: ls, c, c', x, h => by
    simp only [confLs] at h
    split at h
    · split at h
      · rename_i e2
        simp [confLs_len e2]
      · cases h
    · cases h
theorem part_rep {b : Bool} {sh : List SSh} {hs : List LSh} {ls : List Lf} {v : Value} {c c' : CS} {x : LShs.T hs} {Fz : Nat → Prop} {gs : List Gh} (rel : Rel C S w Fz gs c.tbl) (ok : MOk c.m c.tbl) (hr : RepV C S w Fz gs (Ent.part (b, ls)) v) (hb : b = true ∨ ls.length = 1) (h : confLs sh hs ls c = some (x, c')) :
    ∃ Fz' gs', Went C S w sh Fz gs c Fz' gs' c' ∧ RepV C S w Fz' (sel c'.m gs') (Ent.part (b, packLs hs x)) v := by
  cases b with
  | true =>
    obtain ⟨vs, rfl, h1⟩ := hr
    obtain ⟨F1, g1, w1, r1⟩ := confLs_ok rel ok h1 h
    exact ⟨F1, g1, w1, vs, rfl, r1⟩
  | false =>
    have hl := confLs_len h
    have hb : ls.length = 1 := hb.resolve_left (by simp)
    match ls, hs, hb, hl, x, h, hr with
    | [l], [a], _, _, x, h, hr =>
      obtain ⟨F1, g1, w1, r1⟩ := confLs_ok (ls := [l]) (vs := [v]) rel ok ⟨v, [], rfl, hr, rfl⟩ h
      obtain ⟨v1, vs1, e1, r2, _⟩ := r1
      simp only [List.cons.injEq] at e1
      obtain ⟨rfl, _⟩ := e1
      exact ⟨F1, g1, w1, r2⟩
theorem confPs_ok {sh : List SSh} : ∀ {hs : List (Bool × List LSh)} {ls : List (Bool × List Lf)} {vs : List Value} {c c' : CS} {x : PSh.T hs} {Fz : Nat → Prop} {gs : List Gh}, Rel C S w Fz gs c.tbl → MOk c.m c.tbl → RepPs C S w Fz gs ls vs → confPs sh hs ls c = some (x, c') →
    ∃ Fz' gs', Went C S w sh Fz gs c Fz' gs' c' ∧ RepPs C S w Fz' (sel c'.m gs') (packPs hs x) vs
  | [], [], vs, c, c', x, Fz, gs, rel, ok, hr, h => by cases h; exact ⟨Fz, gs, Went.refl rel ok, hr⟩
  | [], _ :: _, vs, c, c', x, Fz, gs, rel, ok, hr, h => by cases h
  | _ :: _, [], vs, c, c', x, Fz, gs, rel, ok, hr, h => by cases h
  | a :: hs, (b, l) :: ls, vs, c, c', x, Fz, gs, rel, ok, ⟨v, vs', h1, h2, h3⟩, h => by
    simp only [confPs] at h
    split at h
    · rename_i hb
      obtain ⟨hb1, hb2⟩ := hb
      split at h
      · rename_i y c1 e1
        split at h
        · rename_i z c2 e2
          cases h
          obtain ⟨F1, g1, w1, r1⟩ := part_rep rel ok h2 hb2 e1
          obtain ⟨F2, g2, w2, r2⟩ := confPs_ok w1.rel w1.ok (h3.fix (w1.fix rel) w1.ext) e2
          refine ⟨F2, g2, w1.trans w2, v, vs', h1, ?_, r2⟩
          have := r1.fix (w2.fix w1.rel) (w2.sel w1.rel w1.ok)
          rw [← hb1] at this
          exact this
        · cases h
      · cases h
    · cases h
theorem confE_ok {sh : List SSh} {a : ESh} {e : Ent} {v : Value} {c c' : CS} {x : a.T} {Fz : Nat → Prop} {gs : List Gh} (rel : Rel C S w Fz gs c.tbl) (ok : MOk c.m c.tbl) (hr : RepE C S w Fz gs e v) (h : confE sh a e c = some (x, c')) :
    ∃ Fz' gs', Went C S w sh Fz gs c Fz' gs' c' ∧ RepE C S w Fz' (sel c'.m gs') (packE a x) v := by
  unfold confE at h
  split at h
  · cases h
    exact ⟨Fz, gs, Went.refl rel ok, trivial⟩
  · exact confL_ok rel ok hr h
  · obtain ⟨vs, rfl, h1⟩ := hr
    obtain ⟨F1, g1, w1, r1⟩ := confLs_ok rel ok h1 h
    exact ⟨F1, g1, w1, vs, rfl, r1⟩
  · obtain ⟨vs, rfl, h1⟩ := hr
    obtain ⟨F1, g1, w1, r1⟩ := confPs_ok rel ok h1 h
    exact ⟨F1, g1, w1, vs, rfl, r1⟩
  · cases h
theorem confEs_ok {sh : List SSh} : ∀ {hs : List ESh} {es : List Ent} {vs : List Value} {c c' : CS} {x : EShs.T hs} {Fz : Nat → Prop} {gs : List Gh}, Rel C S w Fz gs c.tbl → MOk c.m c.tbl → RepEs C S w Fz gs es vs → confEs sh hs es c = some (x, c') →
    ∃ Fz' gs', Went C S w sh Fz gs c Fz' gs' c' ∧ RepEs C S w Fz' (sel c'.m gs') (packEs hs x) vs
  | [], [], vs, c, c', x, Fz, gs, rel, ok, hr, h => by cases h; exact ⟨Fz, gs, Went.refl rel ok, hr⟩
  | [], _ :: _, vs, c, c', x, Fz, gs, rel, ok, hr, h => by cases h
  | _ :: _, [], vs, c, c', x, Fz, gs, rel, ok, hr, h => by cases h
  | a :: hs, e :: es, vs, c, c', x, Fz, gs, rel, ok, ⟨v, vs', h1, h2, h3⟩, h => by
    simp only [confEs] at h
    split at h
    · rename_i y c1 e1
      split at h
      · rename_i z c2 e2
        cases h
        obtain ⟨F1, g1, w1, r1⟩ := confE_ok rel ok h2 e1
        obtain ⟨F2, g2, w2, r2⟩ := confEs_ok w1.rel w1.ok (h3.fix (w1.fix rel) w1.ext) e2
        exact ⟨F2, g2, w1.trans w2, v, vs', h1, r1.fix (w2.fix w1.rel) (w2.sel w1.rel w1.ok), r2⟩
      · cases h
    · cases h
theorem confS_ok {sh : List SSh} {a : SSh} {s j : Nat} {st : Slot} {c c' : CS} {x : a.T} {Fz : Nat → Prop} {gs : List Gh} {g : Gh} (rel : Rel C S w Fz gs c.tbl) (ok : MOk c.m c.tbl) (hj : c.m[j]? = some s) (hsh : sh[j]? = some a) (hst : c.tbl[s]? = some st) (hg : gs[s]? = some g) (h : confS sh a st c = some (x, c')) :
    ∃ Fz' gs', Went C S w sh Fz gs c Fz' gs' c' ∧ (a = .dead ∨ (gs'[s]? = some g ∧ SlotRep C S w Fz' (sel c'.m gs') (packS a x) g)) := by
  have hsl := rel.slot s st g hst hg
  have hsel := fun (F : Nat → Prop) => sel_ext (ok.gl rel) (List.prefix_refl c.m) (Ext.refl gs)
  unfold confS at h
  split at h
  · cases h
    exact ⟨Fz, gs, Went.refl rel ok, .inl rfl⟩
  · rename_i e t e' t' l
    split at h
    · rename_i hh
      obtain ⟨rfl, rfl⟩ := hh
      cases h
      refine ⟨Fz, gs, Went.refl rel ok, .inr ⟨hg, ?_⟩⟩
      exact hsl
    · cases h
  · rename_i e t e' t' l
    split at h
    · rename_i hh
      obtain ⟨rfl, rfl⟩ := hh
      cases h
      exact ⟨Fz, gs, Went.refl rel ok, .inr ⟨hg, hsl⟩⟩
    · cases h
  · rename_i t hs t' cs
    split at h
    · rename_i ht
      subst ht
      obtain ⟨b, vs, h1, h2, h3, h4⟩ := hsl
      obtain ⟨F1, g1, w1, r1⟩ := confLs_ok rel ok h4 h
      exact ⟨F1, g1, w1, .inr ⟨(w1.same j s hj (by rw [hsh]; simp)).trans hg, b, vs, h1, h2, h3, r1⟩⟩
    · cases h
  · rename_i kt vt ag kt' vt' ag' m
    split at h
    · rename_i hh
      obtain ⟨rfl, rfl, rfl⟩ := hh
      cases h
      exact ⟨Fz, gs, Went.refl rel ok, .inr ⟨hg, hsl⟩⟩
    · cases h
  · cases h
theorem confSs_ok {sh : List SSh} : ∀ {hs : List SSh} {j : Nat} {c c' : CS} {x : SShs.T hs} {Fz : Nat → Prop} {gs : List Gh}, Rel C S w Fz gs c.tbl → MOk c.m c.tbl → sh.drop j = hs → confSs sh hs j c = some (x, c') →
    ∃ Fz' gs', Went C S w sh Fz gs c Fz' gs' c' ∧ c'.m.length = j + hs.length ∧ ∀ (i : Nat) (st : Slot), (packSs hs x)[i]? = some st → ∃ s g, c'.m[j + i]? = some s ∧ gs'[s]? = some g ∧ ((hs[i]? = some .dead ∧ st = .dead) ∨ (hs[i]? ≠ some .dead ∧ SlotRep C S w Fz' (sel c'.m gs') st g))
  | [], j, c, c', x, Fz, gs, rel, ok, hd, h => by
    simp only [confSs] at h
    split at h
    · rename_i hj
      cases h
      exact ⟨Fz, gs, Went.refl rel ok, by simp [hj], fun i st hi => by simp [packSs] at hi⟩
    · cases h
  | a :: hs, j, c, c', x, Fz, gs, rel, ok, hd, h => by
    simp only [confSs] at h
    split at h
    · rename_i s hj
      split at h
      · rename_i y c1 e1
        split at h
        · rename_i z c2 e2
          cases h
          have hs1 := ok.lt s (List.mem_of_getElem? hj)
          have hst : c.tbl[s]? = some (c.tbl.getD s .dead) := by rw [List.getD_eq_getElem?_getD, List.getElem?_eq_getElem hs1]; rfl
          obtain ⟨g, hg⟩ := rel.gh hst
          have hsh : sh[j]? = some a := by
            have := congrArg (·[0]?) hd
            simpa using this
          obtain ⟨F1, g1, w1, q1⟩ := confS_ok rel ok hj hsh hst hg e1
          obtain ⟨F2, g2, w2, l2, q2⟩ := confSs_ok w1.rel w1.ok (by rw [← List.drop_drop (i := 1), hd]; rfl) e2
          refine ⟨F2, g2, w1.trans w2, by rw [l2, List.length_cons]; omega, fun i st hi => ?_⟩
          cases i with
          | zero =>
            have hst' : packS a y = st := by simpa [packSs] using hi
            have hm2 := pre_get (w1.trans w2).pre hj
            rcases q1 with rfl | ⟨q3, q4⟩
            · obtain ⟨g', hg', _⟩ := (w1.trans w2).ext s g hg
              exact ⟨s, g', hm2, hg', .inl ⟨rfl, hst'.symm⟩⟩
            · by_cases hdead : a = .dead
              · subst hdead
                obtain ⟨g', hg', _⟩ := (w1.trans w2).ext s g hg
                exact ⟨s, g', hm2, hg', .inl ⟨rfl, hst'.symm⟩⟩
              · have hs2 := (w2.same j s (pre_get w1.pre hj) (by rw [hsh]; simpa using hdead)).trans q3
                refine ⟨s, g, hm2, hs2, .inr ⟨by simpa using hdead, ?_⟩⟩
                rw [← hst']
                exact q4.fix (w2.fix w1.rel) (w2.sel w1.rel w1.ok) (fun _ _ => rfl)
          | succ i =>
            have := q2 i st (by simpa [packSs] using hi)
            rw [show j + 1 + i = j + (i + 1) by omega] at this
            simpa using this
        · cases h
      · cases h
    · cases h
/-- The slots that are met, those given up without their blocks. -/
def selD (sh : List SSh) (m : List Nat) (gs : List Gh) : List Gh := (m.zipIdx).map fun p => match sh[p.2]? with | some .dead => ⟨(gs.getD p.1 default).v, none⟩ | _ => gs.getD p.1 default
theorem selD_get {sh : List SSh} {m : List Nat} {gs : List Gh} {i s : Nat} {g : Gh} (h : m[i]? = some s) (hg : gs[s]? = some g) : (sh[i]? = some .dead ∧ (selD sh m gs)[i]? = some ⟨g.v, none⟩) ∨ (sh[i]? ≠ some .dead ∧ (selD sh m gs)[i]? = some g) := by
  have : (selD sh m gs)[i]? = some (match sh[i]? with | some .dead => ⟨(gs.getD s default).v, none⟩ | _ => gs.getD s default) := by
    simp [selD, List.getElem?_map, List.getElem?_zipIdx, h]
  rw [this, List.getD_eq_getElem?_getD, hg]
  by_cases hd : sh[i]? = some .dead
  · left
    rw [hd]
    exact ⟨rfl, rfl⟩
  · right
    refine ⟨hd, ?_⟩
    split
    · rename_i e; exact absurd e hd
    · rfl
theorem selD_len (sh : List SSh) (m : List Nat) (gs : List Gh) : (selD sh m gs).length = m.length := by simp [selD]
theorem selD_of {sh : List SSh} {m : List Nat} {gs : List Gh} (hm : ∀ s ∈ m, s < gs.length) {i : Nat} {g : Gh} (h : (selD sh m gs)[i]? = some g) : ∃ s g0, m[i]? = some s ∧ gs[s]? = some g0 ∧ g.v = g0.v ∧ (g.own = none ∨ g = g0) := by
  have hi : i < m.length := by rw [← selD_len sh m gs]; exact (List.getElem?_eq_some_iff.1 h).1
  have hs := hm m[i] (List.getElem_mem hi)
  rcases selD_get (sh := sh) (List.getElem?_eq_getElem hi) (List.getElem?_eq_getElem hs) with ⟨_, h1⟩ | ⟨_, h1⟩
  · rw [h] at h1
    obtain rfl := Option.some.inj h1
    exact ⟨m[i], _, List.getElem?_eq_getElem hi, List.getElem?_eq_getElem hs, rfl, .inl rfl⟩
  · rw [h] at h1
    obtain rfl := Option.some.inj h1
    exact ⟨m[i], _, List.getElem?_eq_getElem hi, List.getElem?_eq_getElem hs, rfl, .inr rfl⟩
theorem sel_selD {sh : List SSh} {m : List Nat} {gs : List Gh} (hm : ∀ s ∈ m, s < gs.length) : Ext (sel m gs) (selD sh m gs) := by
  intro i g hg
  obtain ⟨s, h1, h2⟩ := sel_of hm hg
  rcases selD_get (sh := sh) h1 h2 with ⟨_, h3⟩ | ⟨_, h3⟩
  · exact ⟨_, h3, rfl⟩
  · exact ⟨_, h3, rfl⟩
theorem packSs_len : ∀ (hs : List SSh) (x : SShs.T hs), (packSs hs x).length = hs.length
  | [], x => rfl
  | a :: hs, x => by simp [packSs, packSs_len hs x.2]
/-- What is there, told anew by a shape. -/
theorem conf_ok {h : Sh} {es : List Ent} {vs : List Value} {m : List Nat} {tbl : List Slot} {c : CS} {x : h.T} {Fz : Nat → Prop} {gs : List Gh} (rel : Rel C S w Fz gs tbl) (hn : m.Nodup) (hlt : ∀ s ∈ m, s < tbl.length) (hr : RepEs C S w Fz gs es vs) (hc : conf h es m tbl = some (x, c)) :
    ∃ Fz' gs', Rel C S w Fz' gs' c.tbl ∧ Step gs.length w Fz gs w Fz' gs' ∧ m <+: c.m ∧ MOk c.m c.tbl ∧ c.m.length = h.ss.length ∧ RepEs C S w Fz' (selD h.ss c.m gs') (packEs h.es x.1) vs ∧ Rel C S w Fz' (selD h.ss c.m gs') (packSs h.ss x.2) := by
  unfold conf at hc
  split at hc
  · rename_i y c1 e1
    split at hc
    · rename_i z c2 e2
      cases hc
      obtain ⟨F1, g1, w1, r1⟩ := confEs_ok (sh := h.ss) (c := ⟨m, tbl⟩) rel ⟨hn, hlt⟩ hr e1
      obtain ⟨F2, g2, w2, l2, q2⟩ := confSs_ok (sh := h.ss) (hs := h.ss) (j := 0) w1.rel w1.ok rfl e2
      have hgl := w2.ok.gl w2.rel
      simp only [Nat.zero_add] at l2 q2
      refine ⟨F2, g2, w2.rel, (w1.trans w2).step, (w1.trans w2).pre, w2.ok, l2, (r1.fix (w2.fix w1.rel) (w2.sel w1.rel w1.ok)).fix (Fix.refl _ _) (sel_selD hgl), ?_⟩
      refine ⟨by rw [selD_len, packSs_len, l2], fun i s g hs hg => ?_, fun i j gi gj b hi hj hbi hbj => ?_, fun i g b hi hb => ?_, w2.rel.fz, w2.rel.glob, w2.rel.tab⟩
      · obtain ⟨s', g0, k1, k2, k3⟩ := q2 i s hs
        rcases selD_get (sh := h.ss) k1 k2 with ⟨d1, d2⟩ | ⟨d1, d2⟩
        · rw [hg] at d2
          obtain rfl := Option.some.inj d2
          rcases k3 with ⟨_, rfl⟩ | ⟨k3, _⟩
          · exact rfl
          · exact absurd d1 k3
        · rw [hg] at d2
          obtain rfl := Option.some.inj d2
          rcases k3 with ⟨k3, _⟩ | ⟨_, k3⟩
          · exact absurd k3 d1
          · exact k3.fix (Fix.refl _ _) (sel_selD hgl) (fun _ _ => rfl)
      · obtain ⟨s1, g1', a1, a2, a3, a4⟩ := selD_of hgl hi
        obtain ⟨s2, g2', b1, b2, b3, b4⟩ := selD_of hgl hj
        have e1 : g1'.own = some b := by rcases a4 with a4 | rfl; · rw [a4] at hbi; cases hbi
                                         · exact hbi
        have e2 : g2'.own = some b := by rcases b4 with b4 | rfl; · rw [b4] at hbj; cases hbj
                                         · exact hbj
        have := w2.rel.apart s1 s2 g1' g2' b a2 b2 e1 e2
        subst this
        exact nodup_idx w2.ok.nodup a1 b1
      · obtain ⟨s1, g1', a1, a2, a3, a4⟩ := selD_of hgl hi
        rcases a4 with a4 | rfl
        · rw [a4] at hb; cases hb
        · exact w2.rel.own s1 g b a2 hb
    · cases hc
  · cases hc
end
end Go.Proofs.YtnajjhjbkanigaaDoor.Cm
