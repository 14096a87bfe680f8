/- Code as plain functions: calls. By this session. -/
import Derived.Test.YtnajjhjbkanigaaDoorCmP
namespace Go.Proofs.YtnajjhjbkanigaaDoor.Cm
open Go
set_option linter.unusedVariables false
set_option linter.unusedSimpArgs false
theorem putBack_len {α : Type} : ∀ (m : List Nat) (r tbl : List α), m.length ≤ r.length → (putBack tbl m r).length = tbl.length + (r.length - m.length)
  | [], r, tbl, h => by cases r <;> simp [putBack]
  | s :: m, [], tbl, h => by simp at h
  | s :: m, x :: r, tbl, h => by
    simp only [putBack]
    rw [putBack_len m r _ (by simpa using h)]
    simp
theorem putBack_old {α : Type} : ∀ (m : List Nat) (r tbl : List α) (q : Nat), q < tbl.length → q ∉ m → (putBack tbl m r)[q]? = tbl[q]?
  | [], r, tbl, q, hq, hm => by cases r <;> simp [putBack, List.getElem?_append_left hq]
  | s :: m, [], tbl, q, hq, hm => by simp [putBack]
  | s :: m, x :: r, tbl, q, hq, hm => by
    simp only [putBack]
    rw [putBack_old m r _ q (by simpa using hq) (fun h => hm (List.mem_cons_of_mem _ h)), List.getElem?_set_ne (fun e => hm (by rw [e]; exact List.mem_cons_self))]
theorem putBack_met {α : Type} : ∀ (m : List Nat) (r tbl : List α), m.Nodup → (∀ s ∈ m, s < tbl.length) → ∀ (i s : Nat) (x : α), m[i]? = some s → r[i]? = some x → (putBack tbl m r)[s]? = some x
  | [], r, tbl, hn, hl, i, s, x, hi, hr => by simp at hi
  | s0 :: m, [], tbl, hn, hl, i, s, x, hi, hr => by simp at hr
  | s0 :: m, x0 :: r, tbl, hn, hl, i, s, x, hi, hr => by
    simp only [putBack]
    cases i with
    | zero =>
      simp at hi hr
      subst hi; subst hr
      rw [putBack_old m r _ s0 (by simpa using hl s0 (by simp)) (List.nodup_cons.1 hn).1, List.getElem?_set_self (hl s0 (by simp))]
    | succ i => exact putBack_met m r _ (List.nodup_cons.1 hn).2 (fun q hq => by simpa using hl q (by simp [hq])) i s x (by simpa using hi) (by simpa using hr)
theorem putBack_new {α : Type} : ∀ (m : List Nat) (r tbl : List α), m.length ≤ r.length → ∀ (j : Nat), m.length ≤ j → (putBack tbl m r)[tbl.length + (j - m.length)]? = r[j]?
  | [], r, tbl, h, j, hj => by
    have : putBack tbl [] r = tbl ++ r := by cases r <;> rfl
    rw [this, List.getElem?_append_right (by simp)]
    simp
  | s :: m, [], tbl, h, j, hj => by simp at h
  | s :: m, x :: r, tbl, h, j, hj => by
    cases j with
    | zero => simp at hj
    | succ j =>
      simp only [putBack]
      have := putBack_new m r (tbl.set s x) (by simpa using h) j (by simpa using hj)
      rw [List.length_set] at this
      rw [show j + 1 - (s :: m).length = j - m.length by simp, this]
      simp
section
variable {P : Program} {C : Cfg} {S : Nat → Addr} {R : Type}
theorem back_get {α : Type} {m : List Nat} {r tbl : List α} (hn : m.Nodup) (hl : ∀ s ∈ m, s < tbl.length) (hr : m.length ≤ r.length) {j : Nat} {x : α} (hj : r[j]? = some x) : (putBack tbl m r)[back m tbl.length j]? = some x := by
  unfold back
  split
  · rename_i h
    have : m[j]? = some (m.getD j 0) := by rw [List.getD_eq_getElem?_getD, List.getElem?_eq_getElem h]; rfl
    exact putBack_met m r tbl hn hl j _ x this hj
  · rename_i h
    rw [putBack_new m r tbl hr j (by omega)]
    exact hj
/-- Each place is an old one that was not met, or comes of the call. -/
theorem back_or {α : Type} {m : List Nat} {r tbl : List α} (hn : m.Nodup) (hl : ∀ s ∈ m, s < tbl.length) (hr : m.length ≤ r.length) {q : Nat} {x : α} (hq : (putBack tbl m r)[q]? = some x) :
    (q < tbl.length ∧ q ∉ m ∧ tbl[q]? = some x) ∨ ∃ j, r[j]? = some x ∧ q = back m tbl.length j := by
  by_cases h1 : q < tbl.length
  · by_cases h2 : q ∈ m
    · right
      obtain ⟨i, hi, e⟩ := List.getElem_of_mem h2
      have hi2 : m[i]? = some q := by rw [List.getElem?_eq_getElem hi, e]
      have hir : i < r.length := by omega
      have := putBack_met m r tbl hn hl i q _ hi2 (List.getElem?_eq_getElem hir)
      rw [hq] at this
      obtain rfl := Option.some.inj this
      refine ⟨i, List.getElem?_eq_getElem hir, ?_⟩
      unfold back
      rw [if_pos hi, List.getD_eq_getElem?_getD, hi2]
      rfl
    · left
      rw [putBack_old m r tbl q h1 h2] at hq
      exact ⟨h1, h2, hq⟩
  · right
    have hlen := putBack_len m r tbl hr
    have hql := (List.getElem?_eq_some_iff.1 hq).1
    refine ⟨m.length + (q - tbl.length), ?_, ?_⟩
    · have := putBack_new m r tbl hr (m.length + (q - tbl.length)) (by omega)
      rw [show tbl.length + (m.length + (q - tbl.length) - m.length) = q by omega, hq] at this
      exact this.symm
    · unfold back
      rw [if_neg (by omega)]
      omega
/-- Places of a call, told by the caller's. -/
def Ren (ρ : Nat → Nat) (gs gs' : List Gh) : Prop := ∀ (j : Nat) (g : Gh), gs[j]? = some g → gs'[ρ j]? = some g
theorem RepL.ren {w : World} {Fz : Nat → Prop} {ρ : Nat → Nat} {gs gs' : List Gh} (hρ : Ren ρ gs gs') {l : Lf} {v : Value} (r : RepL C S w Fz gs l v) : RepL C S w Fz gs' (l.ren ρ) v := by
  cases l with
  | val k y => exact r
  | undef => exact r
  | skp => exact r
  | opq => exact r
  | emp b => exact r
  | arr s => obtain ⟨g, a, n, c, h1, h2⟩ := r; exact ⟨g, a, n, c, hρ s g h1, h2⟩
  | ptr s off => obtain ⟨g, b, h1, h2⟩ := r; exact ⟨g, b, hρ s g h1, h2⟩
  | elt s sz i off => obtain ⟨g, ad, len, cap, h1, h2⟩ := r; exact ⟨g, ad, len, cap, hρ s g h1, h2⟩
  | fad k y off => exact r
  | rowv s n => obtain ⟨g, b, h1, h2⟩ := r; exact ⟨g, b, hρ s g h1, h2⟩
  | nilp => exact r
  | map s => obtain ⟨g, b, h1, h2⟩ := r; exact ⟨g, b, hρ s g h1, h2⟩
  | nilmap => exact r
  | fn f caps =>
    obtain ⟨vs, h1, h2, h3⟩ := r
    refine ⟨vs, h1, by simpa using h2, fun i c hc => ?_⟩
    rw [List.getElem?_map, Option.map_eq_some_iff] at hc
    obtain ⟨c0, hc0, rfl⟩ := hc
    obtain ⟨g, b, h4, h5⟩ := h3 i c0 hc0
    exact ⟨g, b, hρ c0 g h4, h5⟩
  | nilf => exact r
  | glob g => exact r
theorem RepLs.ren {w : World} {Fz : Nat → Prop} {ρ : Nat → Nat} {gs gs' : List Gh} (hρ : Ren ρ gs gs') : ∀ {ls vs}, RepLs C S w Fz gs ls vs → RepLs C S w Fz gs' (ls.map (·.ren ρ)) vs
  | [], vs, r => r
  | l :: ls, vs, ⟨v, vs', h1, h2, h3⟩ => ⟨v, vs', h1, h2.ren hρ, RepLs.ren hρ h3⟩
theorem part_ren (ρ : Nat → Nat) (p : Bool × List Lf) : Ent.part (p.1, p.2.map (·.ren ρ)) = (Ent.part p).ren ρ := by
  obtain ⟨b, ls⟩ := p
  cases b with
  | true => rfl
  | false =>
    match ls with
    | [] => rfl
    | [l] => rfl
    | _ :: _ :: _ => rfl
theorem RepV.ren {w : World} {Fz : Nat → Prop} {ρ : Nat → Nat} {gs gs' : List Gh} (hρ : Ren ρ gs gs') {e : Ent} {v : Value} (r : RepV C S w Fz gs e v) : RepV C S w Fz gs' (e.ren ρ) v := by
  cases e with
  | one l => exact RepL.ren hρ r
  | agg cs => obtain ⟨vs, h1, h2⟩ := r; exact ⟨vs, h1, h2.ren hρ⟩
  | tup ps => trivial
theorem RepPs.ren {w : World} {Fz : Nat → Prop} {ρ : Nat → Nat} {gs gs' : List Gh} (hρ : Ren ρ gs gs') : ∀ {ls vs}, RepPs C S w Fz gs ls vs → RepPs C S w Fz gs' (ls.map fun p => (p.1, p.2.map (·.ren ρ))) vs
  | [], vs, r => r
  | l :: ls, vs, ⟨v, vs', h1, h2, h3⟩ => ⟨v, vs', h1, by rw [part_ren]; exact h2.ren hρ, RepPs.ren hρ h3⟩
theorem RepE.ren {w : World} {Fz : Nat → Prop} {ρ : Nat → Nat} {gs gs' : List Gh} (hρ : Ren ρ gs gs') {e : Ent} {v : Value} (r : RepE C S w Fz gs e v) : RepE C S w Fz gs' (e.ren ρ) v := by
  cases e with
  | one l => exact RepL.ren hρ r
  | agg cs => exact RepV.ren (e := .agg cs) hρ r
  | tup ps => obtain ⟨vs, h1, h2⟩ := r; exact ⟨vs, h1, h2.ren hρ⟩
theorem SlotRep.ren {w : World} {Fz : Nat → Prop} {ρ : Nat → Nat} {gs gs' : List Gh} (hρ : Ren ρ gs gs') {s : Slot} {g : Gh} (r : SlotRep C S w Fz gs s g) : SlotRep C S w Fz gs' (s.ren ρ) g := by
  cases s with
  | dead => exact r
  | arr e t l => exact r
  | frz e t l => exact r
  | obj t cs => obtain ⟨b, vs, h1, h2, h3, h4⟩ := r; exact ⟨b, vs, h1, h2, h3, h4.ren hρ⟩
  | map kt vt ag m => exact r
/-- What a function's specification says. -/
def SpecOk (P : Program) (C : Cfg) (S : Nat → Addr) (f : FuncId) (sp : FSpec) : Prop :=
  (∃ fn, P.funcs[f]? = some fn ∧ fn.body.isSome = true ∧ (fn.name == "runtime.NumGoroutine") = false) ∧
  ∀ (w : World) (Fz : Nat → Prop) (gs : List Gh) (vs : List Value) (x : sp.ins.T) (y : OutsT sp.outs), Rel C S w Fz gs (packSs sp.ins.ss x.2) → RepEs C S w Fz gs (packEs sp.ins.es x.1) vs → sp.sem x = some y →
    Calls P f vs.toArray w (fun e w' => ∃ v Fz' gs' o, e = .returned v ∧ Rel C S w' Fz' gs' (outP sp.outs y).2 ∧ (outP sp.outs y).1 = [o] ∧ RepE C S w' Fz' gs' o v ∧ Step sp.ins.ss.length w Fz gs w' Fz' gs')
theorem call_back {w w' : World} {Fz F1 F2 : Nat → Prop} {gs g1 gc : List Gh} {c : CS} {ss : List SSh} {tc : List Slot} {e : Ent} {v : Value} {t1 : List Slot}
    (r1 : Rel C S w F1 g1 c.tbl) (s1 : Step gs.length w Fz gs w F1 g1) (ok : MOk c.m c.tbl) (hlen : c.m.length = ss.length)
    (rc : Rel C S w F1 (selD ss c.m g1) t1) (r2 : Rel C S w' F2 gc tc) (hv : RepE C S w' F2 gc e v) (s2 : Step ss.length w F1 (selD ss c.m g1) w' F2 gc) (hgl : gs.length ≤ g1.length) :
    ∃ gs', Rel C S w' F2 gs' (putBack c.tbl c.m (tc.map (·.ren (back c.m c.tbl.length)))) ∧ RepE C S w' F2 gs' (e.ren (back c.m c.tbl.length)) v ∧ Step gs.length w Fz gs w' F2 gs' := by
  have hgs := ok.gl r1
  have hcl : c.m.length ≤ gc.length := by
    rcases Nat.lt_or_ge gc.length c.m.length with hlt | hge
    · have h0 : gc.length < (selD ss c.m g1).length := by rw [selD_len]; exact hlt
      obtain ⟨g', hg', _⟩ := s2.ext gc.length _ (by rw [← hlen]; exact hlt) (List.getElem?_eq_getElem h0)
      rw [List.getElem?_eq_none (Nat.le_refl _)] at hg'
      cases hg'
    · exact hge
  have htl : gc.length = tc.length := r2.len
  have hρ : Ren (back c.m c.tbl.length) gc (putBack g1 c.m gc) := by
    intro j g hg
    rw [← r1.len]
    exact back_get ok.nodup hgs hcl hg
  have hown : ∀ (i : Nat) (g : Gh) (b : Nat), (selD ss c.m g1)[i]? = some g → g.own = some b → ∃ (s : Nat) (g0 : Gh), c.m[i]? = some s ∧ g1[s]? = some g0 ∧ g0.own = some b := by
    intro i g b hg hb
    obtain ⟨s, g0, h1, h2, h3, h4⟩ := selD_of hgs hg
    rcases h4 with h4 | rfl
    · rw [h4] at hb; cases hb
    · exact ⟨s, g, h1, h2, hb⟩
  have hkeep : ∀ b, b < w.heap.size → (∀ (i s : Nat) (g : Gh), c.m[i]? = some s → g1[s]? = some g → g.own ≠ some b) → w'.heap[b]? = w.heap[b]? := by
    intro b hb hn
    refine s2.keep b hb (fun i g hg e => ?_)
    obtain ⟨s, g0, h1, h2, h3⟩ := hown i g b hg e
    exact hn i s g0 h1 h2 h3
  have fx : Fix w F1 w' F2 := s2.fix ⟨t1, rc⟩
  have hext : Ext g1 (putBack g1 c.m gc) := by
    intro q g hg
    have hq := (List.getElem?_eq_some_iff.1 hg).1
    by_cases hm : q ∈ c.m
    · obtain ⟨i, hi, e1⟩ := List.getElem_of_mem hm
      have hi2 : c.m[i]? = some q := by rw [List.getElem?_eq_getElem hi, e1]
      have hsd : ∃ g', (selD ss c.m g1)[i]? = some g' ∧ g'.v = g.v := by
        rcases selD_get (sh := ss) hi2 hg with ⟨_, h1⟩ | ⟨_, h1⟩
        · exact ⟨_, h1, rfl⟩
        · exact ⟨_, h1, rfl⟩
      obtain ⟨g', h1, h2⟩ := hsd
      obtain ⟨g'', h3, h4⟩ := s2.ext i g' (by rw [← hlen]; exact hi) h1
      exact ⟨g'', putBack_met c.m gc g1 ok.nodup hgs i q g'' hi2 h3, h4.trans h2⟩
    · exact ⟨g, by rw [putBack_old c.m gc g1 q hq hm]; exact hg, rfl⟩
  have hor : ∀ (q : Nat) (g : Gh), (putBack g1 c.m gc)[q]? = some g → (q < g1.length ∧ q ∉ c.m ∧ g1[q]? = some g) ∨ ∃ j, gc[j]? = some g ∧ q = back c.m g1.length j := fun q g h => back_or ok.nodup hgs hcl h
  have hownC : ∀ (j : Nat) (g : Gh) (b : Nat), gc[j]? = some g → g.own = some b → w.heap.size ≤ b ∨ ∃ (i s : Nat) (g0 : Gh), c.m[i]? = some s ∧ g1[s]? = some g0 ∧ g0.own = some b := by
    intro j g b hg hb
    rcases s2.own j g b hg hb with h | ⟨i, g', h1, h2⟩
    · exact .inl h
    · obtain ⟨s, g0, h3, h4, h5⟩ := hown i g' b h1 h2
      exact .inr ⟨i, s, g0, h3, h4, h5⟩
  refine ⟨putBack g1 c.m gc, ?_, hv.ren hρ, ?_⟩
  · refine ⟨?_, fun q st g hst hg => ?_, fun i j gi gj b hi hj hbi hbj => ?_, fun q g b hg hb => ?_, r2.fz, r2.glob, r2.tab⟩
    · rw [putBack_len _ _ _ hcl, putBack_len _ _ _ (by simpa [← htl] using hcl), r1.len, List.length_map, htl]
    · rcases hor q g hg with ⟨h1, h2, h3⟩ | ⟨j, h1, h2⟩
      · rw [putBack_old _ _ _ q (by rw [← r1.len]; exact h1) h2] at hst
        refine (r1.slot q st g hst h3).fix fx hext (fun b hb => hkeep b (r1.own q g b h3 hb).1 (fun i s g0 k1 k2 k3 => ?_))
        have := r1.apart q s g g0 b h3 k2 hb k3
        exact h2 (this ▸ List.mem_of_getElem? k1)
      · obtain ⟨s0, hs0⟩ := r2.sl h1
        have : (putBack c.tbl c.m (tc.map (·.ren (back c.m c.tbl.length))))[back c.m c.tbl.length j]? = some (s0.ren (back c.m c.tbl.length)) := back_get ok.nodup ok.lt (by simpa [← htl] using hcl) (by rw [List.getElem?_map, hs0]; rfl)
        rw [h2, r1.len] at hst
        rw [this] at hst
        obtain rfl := Option.some.inj hst
        exact (r2.slot j s0 g hs0 h1).ren hρ
    · rcases hor i gi hi with ⟨a1, a2, a3⟩ | ⟨ji, a1, a2⟩ <;> rcases hor j gj hj with ⟨b1, b2, b3⟩ | ⟨jj, b1, b2⟩
      · exact r1.apart i j gi gj b a3 b3 hbi hbj
      · exfalso
        rcases hownC jj gj b b1 hbj with h | ⟨i2, s, g0, h1, h2, h3⟩
        · have := (r1.own i gi b a3 hbi).1; omega
        · have := r1.apart i s gi g0 b a3 h2 hbi h3
          exact a2 (this ▸ List.mem_of_getElem? h1)
      · exfalso
        rcases hownC ji gi b a1 hbi with h | ⟨i2, s, g0, h1, h2, h3⟩
        · have := (r1.own j gj b b3 hbj).1; omega
        · have := r1.apart j s gj g0 b b3 h2 hbj h3
          exact b2 (this ▸ List.mem_of_getElem? h1)
      · have := r2.apart ji jj gi gj b a1 b1 hbi hbj
        rw [a2, b2, this]
    · rcases hor q g hg with ⟨h1, h2, h3⟩ | ⟨j, h1, h2⟩
      · obtain ⟨k1, k2⟩ := r1.own q g b h3 hb
        refine ⟨Nat.lt_of_lt_of_le k1 s2.size, fun hf => ?_⟩
        rcases s2.fznew b hf with hf | hf | ⟨i, g', e1, e2⟩
        · exact k2 hf
        · omega
        · obtain ⟨s, g0, e3, e4, e5⟩ := hown i g' b e1 e2
          have := r1.apart q s g g0 b h3 e4 hb e5
          exact h2 (this ▸ List.mem_of_getElem? e3)
      · exact r2.own j g b h1 hb
  · refine s1.trans (⟨s2.os, s2.tape, s2.output, s2.size, fun b hb hn => hkeep b hb (fun i s g h1 h2 => hn s g h2), s2.fz, fun b hb => ?_, fun q g b hg hb => ?_, fun i g _ hg => hext i g hg⟩ : Step gs.length w F1 g1 w' F2 (putBack g1 c.m gc))
    · rcases s2.fznew b hb with h | h | ⟨i, g, h1, h2⟩
      · exact .inl h
      · exact .inr (.inl h)
      · obtain ⟨s, g0, h3, h4, h5⟩ := hown i g b h1 h2
        exact .inr (.inr ⟨s, g0, h4, h5⟩)
    · rcases hor q g hg with ⟨h1, h2, h3⟩ | ⟨j, h1, h2⟩
      · exact .inr ⟨q, g, h3, hb⟩
      · rcases hownC j g b h1 hb with h | ⟨i2, s, g0, h3, h4, h5⟩
        · exact .inl h
        · exact .inr ⟨s, g0, h4, h5⟩
end
end Go.Proofs.YtnajjhjbkanigaaDoor.Cm
