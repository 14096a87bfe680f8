/- Code as plain functions: slots that are made, turned, frozen, given up. By this session. -/
import Derived.Test.YtnajjhjbkanigaaDoorCmC
namespace Go.Proofs.YtnajjhjbkanigaaDoor.Cm
open Go
set_option linter.unusedVariables false
set_option linter.unusedSimpArgs false
section
variable {C : Cfg} {S : Nat → Addr} {w w' : World} {Fz Fz' : Nat → Prop} {gs gs' : List Gh} {tbl tbl' : List Slot}
theorem Rel.gen (r : Rel C S w Fz gs tbl) (fix : Fix w Fz w' Fz') (ext : Ext gs gs') (hl : gs'.length = tbl'.length)
    (hs : ∀ (i : Nat) (s : Slot) (g : Gh), tbl'[i]? = some s → gs'[i]? = some g → (tbl[i]? = some s ∧ gs[i]? = some g ∧ ∀ b, g.own = some b → w'.heap[b]? = w.heap[b]?) ∨ SlotRep C S w' Fz' gs' s g)
    (ha : ∀ (i j : Nat) (gi gj : Gh) (b : Nat), gs'[i]? = some gi → gs'[j]? = some gj → gi.own = some b → gj.own = some b → i = j)
    (ho : ∀ (i : Nat) (g : Gh) (b : Nat), gs'[i]? = some g → g.own = some b → b < w'.heap.size ∧ ¬ Fz' b) (hf : ∀ b, Fz' b → b < w'.heap.size) : Rel C S w' Fz' gs' tbl' := by
  refine ⟨hl, fun i s g h1 h2 => ?_, ha, ho, hf, fun c g h => ?_, fun p hp => ⟨fix.fz _ (r.tab p hp).1, by rw [fix.heap _ (r.tab p hp).1]; exact (r.tab p hp).2⟩⟩
  · rcases hs i s g h1 h2 with ⟨h3, h4, h5⟩ | h3
    · exact (r.slot i s g h3 h4).fix fix ext h5
    · exact h3
  · obtain ⟨h1, h2, h3, ca, ta, h4⟩ := r.glob c g h
    exact ⟨fix.fz _ h1, (fix.cell (a := ⟨g, 0, none⟩) h1).trans h2, fix.fz _ h3, ca, ta, (fix.heap _ h3).trans h4⟩
theorem get_append {α : Type} {l : List α} {x y : α} {i : Nat} (h : (l ++ [x])[i]? = some y) : (i < l.length ∧ l[i]? = some y) ∨ (i = l.length ∧ y = x) := by
  rcases Nat.lt_trichotomy i l.length with hi | hi | hi
  · rw [List.getElem?_append_left hi] at h
    exact .inl ⟨hi, h⟩
  · subst hi
    rw [List.getElem?_append_right (Nat.le_refl _)] at h
    simp at h
    exact .inr ⟨rfl, h.symm⟩
  · rw [List.getElem?_append_right (by omega), List.getElem?_eq_none (by simp; omega)] at h
    cases h
theorem get_set {α : Type} {l : List α} {x y : α} {i j : Nat} (h : (l.set i x)[j]? = some y) : (j ≠ i ∧ l[j]? = some y) ∨ (j = i ∧ y = x) := by
  rw [List.getElem?_set] at h
  split at h
  · rename_i e
    split at h
    · exact .inr ⟨e.symm, (Option.some.inj h).symm⟩
    · cases h
  · rename_i e
    exact .inl ⟨fun e' => e e'.symm, h⟩
theorem ext_append (gs : List Gh) (g : Gh) : Ext gs (gs ++ [g]) := fun i x h => ⟨x, by rw [List.getElem?_append_left (List.getElem?_eq_some_iff.1 h).1]; exact h, rfl⟩
theorem ext_set {gs : List Gh} {i : Nat} {g0 g : Gh} (h0 : gs[i]? = some g0) (hv : g.v = g0.v) : Ext gs (gs.set i g) := by
  intro j x h
  by_cases e : i = j
  · subst e
    obtain rfl : g0 = x := Option.some.inj (h0.symm.trans h)
    exact ⟨g, by rw [List.getElem?_set_self (List.getElem?_eq_some_iff.1 h).1], hv⟩
  · exact ⟨x, by rw [List.getElem?_set_ne e]; exact h, rfl⟩

/-- A world that is the old one with more blocks. -/
structure More (w w' : World) : Prop where
  os : w'.os = w.os
  tape : w'.tape = w.tape
  output : w'.output = w.output
  size : w.heap.size ≤ w'.heap.size
  heap : ∀ b, b < w.heap.size → w'.heap[b]? = w.heap[b]?
theorem More.refl (w : World) : More w w := ⟨rfl, rfl, rfl, Nat.le_refl _, fun _ _ => rfl⟩
theorem More.alloc (w : World) (o : Obj) : More w (w.alloc o) := ⟨rfl, rfl, rfl, by simp, fun b hb => by
  show (w.heap.push o)[b]? = _
  rw [Array.getElem?_push, if_neg (by omega)]⟩
theorem More.trans {w w1 w2 : World} (h : More w w1) (k : More w1 w2) : More w w2 :=
  ⟨k.os.trans h.os, k.tape.trans h.tape, k.output.trans h.output, Nat.le_trans h.size k.size, fun b hb => (k.heap b (Nat.lt_of_lt_of_le hb h.size)).trans (h.heap b hb)⟩
theorem More.drew (w : World) : More w w.drew := ⟨rfl, rfl, rfl, Nat.le_refl _, fun _ _ => rfl⟩
theorem More.fix (h : More w w') (r : Rel C S w Fz gs tbl) : Fix w Fz w' Fz := ⟨fun _ h => h, fun b hb => h.heap b (r.fz b hb)⟩
/-- More blocks: all stays. -/
theorem Rel.more (r : Rel C S w Fz gs tbl) (h : More w w') (n : Nat) : Rel C S w' Fz gs tbl ∧ Step n w Fz gs w' Fz gs := by
  refine ⟨r.gen (h.fix r) (Ext.refl _) r.len (fun i s g h1 h2 => .inl ⟨h1, h2, fun b hb => h.heap b (r.own i g b h2 hb).1⟩) r.apart (fun i g b h1 h2 => ⟨Nat.lt_of_lt_of_le (r.own i g b h1 h2).1 h.size, (r.own i g b h1 h2).2⟩) (fun b hb => Nat.lt_of_lt_of_le (r.fz b hb) h.size), ?_⟩
  exact ⟨h.os, h.tape, h.output, h.size, fun b hb _ => h.heap b hb, fun _ h => h, fun _ h => .inl h, fun i g b h1 h2 => .inr ⟨i, g, h1, h2⟩, fun i g _ h => ⟨g, h, rfl⟩⟩
/-- A new slot. -/
theorem Rel.push (r : Rel C S w Fz gs tbl) (h : More w w') (n : Nat) (s : Slot) (g : Gh) (ho : ∀ b, g.own = some b → w.heap.size ≤ b ∧ b < w'.heap.size) (hs : SlotRep C S w' Fz (gs ++ [g]) s g) :
    Rel C S w' Fz (gs ++ [g]) (tbl ++ [s]) ∧ Step n w Fz gs w' Fz (gs ++ [g]) := by
  refine ⟨r.gen (h.fix r) (ext_append gs g) (by simp [r.len]) (fun i s' g' h1 h2 => ?_) (fun i j gi gj b h1 h2 h3 h4 => ?_) (fun i g' b h1 h2 => ?_) (fun b hb => Nat.lt_of_lt_of_le (r.fz b hb) h.size), ?_⟩
  · rcases get_append h2 with ⟨h3, h4⟩ | ⟨h3, h4⟩
    · rcases get_append h1 with ⟨h5, h6⟩ | ⟨h5, h6⟩
      · exact .inl ⟨h6, h4, fun b hb => h.heap b (r.own i g' b h4 hb).1⟩
      · rw [← r.len] at h5; omega
    · rcases get_append h1 with ⟨h5, h6⟩ | ⟨h5, h6⟩
      · rw [← r.len] at h5; omega
      · subst h4; subst h6; exact .inr hs
  · rcases get_append h1 with ⟨h5, h6⟩ | ⟨h5, h6⟩
    · rcases get_append h2 with ⟨h7, h8⟩ | ⟨h7, h8⟩
      · exact r.apart i j gi gj b h6 h8 h3 h4
      · subst h8; have := (ho b h4).1; have := (r.own i gi b h6 h3).1; omega
    · rcases get_append h2 with ⟨h7, h8⟩ | ⟨h7, h8⟩
      · subst h6; have := (ho b h3).1; have := (r.own j gj b h8 h4).1; omega
      · omega
  · rcases get_append h1 with ⟨h5, h6⟩ | ⟨h5, h6⟩
    · exact ⟨Nat.lt_of_lt_of_le (r.own i g' b h6 h2).1 h.size, (r.own i g' b h6 h2).2⟩
    · subst h6; exact ⟨(ho b h2).2, fun hf => by have := (ho b h2).1; have := r.fz b hf; omega⟩
  · refine ⟨h.os, h.tape, h.output, h.size, fun b hb _ => h.heap b hb, fun _ h => h, fun _ h => .inl h, fun i g' b h1 h2 => ?_, fun i x _ hx => ext_append gs g i x hx⟩
    rcases get_append h1 with ⟨h5, h6⟩ | ⟨h5, h6⟩
    · exact .inr ⟨i, g', h6, h2⟩
    · subst h6; exact .inl (ho b h2).1
/-- A slot is turned where it is: its own block alone changes; or it is frozen, or given up. -/
theorem Rel.upd (r : Rel C S w Fz gs tbl) (n : Nat) {i : Nat} {g0 : Gh} (h0 : gs[i]? = some g0) (s : Slot) (g : Gh) (hv : g.v = g0.v) (ho : g.own = none ∨ g.own = g0.own)
    (hos : w'.os = w.os) (htp : w'.tape = w.tape) (hout : w'.output = w.output) (hsz : w'.heap.size = w.heap.size) (hw : ∀ b, g0.own ≠ some b → w'.heap[b]? = w.heap[b]?)
    (hfz : ∀ b, Fz b → Fz' b) (hfn : ∀ b, Fz' b → Fz b ∨ (g0.own = some b ∧ g.own = none)) (hs : SlotRep C S w' Fz' (gs.set i g) s g) :
    Rel C S w' Fz' (gs.set i g) (tbl.set i s) ∧ Step n w Fz gs w' Fz' (gs.set i g) := by
  have fix : Fix w Fz w' Fz' := ⟨hfz, fun b hb => hw b (fun e => (r.own i g0 b h0 e).2 hb)⟩
  have hi : i < gs.length := (List.getElem?_eq_some_iff.1 h0).1
  have own : ∀ (j : Nat) (g' : Gh) (b : Nat), (gs.set i g)[j]? = some g' → g'.own = some b → ∃ g1, gs[j]? = some g1 ∧ g1.own = some b ∧ (j = i → g' = g) := by
    intro j g' b h1 h2
    rcases get_set h1 with ⟨h3, h4⟩ | ⟨h3, h4⟩
    · exact ⟨g', h4, h2, fun e => absurd e h3⟩
    · subst h3; subst h4
      rcases ho with ho | ho
      · rw [ho] at h2; cases h2
      · exact ⟨g0, h0, ho ▸ h2, fun _ => rfl⟩
  refine ⟨r.gen fix (ext_set h0 hv) (by simp [r.len]) (fun j s' g' h1 h2 => ?_) (fun j k gj gk b h1 h2 h3 h4 => ?_) (fun j g' b h1 h2 => ?_) (fun b hb => ?_), ?_⟩
  · rcases get_set h2 with ⟨h3, h4⟩ | ⟨h3, h4⟩
    · rcases get_set h1 with ⟨h5, h6⟩ | ⟨h5, h6⟩
      · exact .inl ⟨h6, h4, fun b hb => hw b (fun e => h3 (r.apart j i g' g0 b h4 h0 hb e))⟩
      · exact absurd h5 h3
    · rcases get_set h1 with ⟨h5, h6⟩ | ⟨h5, h6⟩
      · exact absurd h3 h5
      · subst h4; subst h6; exact .inr hs
  · obtain ⟨g1, e1, e2, _⟩ := own j gj b h1 h3
    obtain ⟨g2, e3, e4, _⟩ := own k gk b h2 h4
    exact r.apart j k g1 g2 b e1 e3 e2 e4
  · obtain ⟨g1, e1, e2, e3⟩ := own j g' b h1 h2
    refine ⟨hsz ▸ (r.own j g1 b e1 e2).1, fun hf => ?_⟩
    rcases hfn b hf with hf | ⟨hf, hn⟩
    · exact (r.own j g1 b e1 e2).2 hf
    · have := r.apart j i g1 g0 b e1 h0 e2 hf
      rw [e3 this, hn] at h2
      cases h2
  · rcases hfn b hb with hf | ⟨hf, hn⟩
    · exact hsz ▸ r.fz b hf
    · exact hsz ▸ (r.own i g0 b h0 hf).1
  · refine ⟨hos, htp, hout, Nat.le_of_eq hsz.symm, fun b hb hn => hw b (hn i g0 h0), hfz, fun b hb => ?_, fun j g' b h1 h2 => ?_, fun j x _ hx => ext_set h0 hv j x hx⟩
    · rcases hfn b hb with hf | ⟨hf, hn⟩
      · exact .inl hf
      · exact .inr (.inr ⟨i, g0, h0, hf⟩)
    · obtain ⟨g1, e1, e2, _⟩ := own j g' b h1 h2
      exact .inr ⟨j, g1, e1, e2⟩
/-- A slot is given up, and a new one has its block, or a new one. -/
theorem Rel.app (r : Rel C S w Fz gs tbl) (n : Nat) {i : Nat} {g0 : Gh} (h0 : gs[i]? = some g0) (s : Slot) (g : Gh)
    (hos : w'.os = w.os) (htp : w'.tape = w.tape) (hout : w'.output = w.output) (hsz : w.heap.size ≤ w'.heap.size) (hw : ∀ b, b < w.heap.size → g0.own ≠ some b → w'.heap[b]? = w.heap[b]?)
    (ho : ∀ b, g.own = some b → g0.own = some b ∨ (w.heap.size ≤ b ∧ b < w'.heap.size)) (hs : SlotRep C S w' Fz (gs.set i ⟨g0.v, none⟩ ++ [g]) s g) :
    Rel C S w' Fz (gs.set i ⟨g0.v, none⟩ ++ [g]) (tbl.set i .dead ++ [s]) ∧ Step n w Fz gs w' Fz (gs.set i ⟨g0.v, none⟩ ++ [g]) := by
  have fix : Fix w Fz w' Fz := ⟨fun _ h => h, fun b hb => hw b (r.fz b hb) (fun e => (r.own i g0 b h0 e).2 hb)⟩
  have ext : Ext gs (gs.set i ⟨g0.v, none⟩ ++ [g]) := (ext_set (g := ⟨g0.v, none⟩) h0 rfl).trans (ext_append _ _)
  have own : ∀ (j : Nat) (g' : Gh) (b : Nat), (gs.set i ⟨g0.v, none⟩ ++ [g])[j]? = some g' → g'.own = some b → (j ≠ i ∧ j < gs.length ∧ gs[j]? = some g' ∧ g0.own ≠ some b) ∨ (j = gs.length ∧ g' = g ∧ (g0.own = some b ∨ (w.heap.size ≤ b ∧ b < w'.heap.size))) := by
    intro j g' b h1 h2
    rcases get_append h1 with ⟨h3, h4⟩ | ⟨h3, h4⟩
    · rw [List.length_set] at h3
      rcases get_set h4 with ⟨h5, h6⟩ | ⟨h5, h6⟩
      · exact .inl ⟨h5, h3, h6, fun e => h5 (r.apart j i g' g0 b h6 h0 h2 e)⟩
      · subst h6; cases h2
    · rw [List.length_set] at h3
      subst h4
      exact .inr ⟨h3, rfl, ho b h2⟩
  refine ⟨r.gen fix ext (by simp [r.len]) (fun j s' g' h1 h2 => ?_) (fun j k gj gk b h1 h2 h3 h4 => ?_) (fun j g' b h1 h2 => ?_) (fun b hb => Nat.lt_of_lt_of_le (r.fz b hb) hsz), ?_⟩
  · rcases get_append h2 with ⟨h3, h4⟩ | ⟨h3, h4⟩
    · rcases get_append h1 with ⟨h5, h6⟩ | ⟨h5, h6⟩
      · rcases get_set h4 with ⟨h7, h8⟩ | ⟨h7, h8⟩
        · rcases get_set h6 with ⟨h9, h10⟩ | ⟨h9, h10⟩
          · exact .inl ⟨h10, h8, fun b hb => hw b (r.own j g' b h8 hb).1 (fun e => h7 (r.apart j i g' g0 b h8 h0 hb e))⟩
          · exact absurd h9 h7
        · rcases get_set h6 with ⟨h9, h10⟩ | ⟨h9, h10⟩
          · exact absurd h7 h9
          · subst h10; subst h8; exact .inr rfl
      · simp only [List.length_set] at h3 h5; rw [← r.len] at h5; omega
    · rcases get_append h1 with ⟨h5, h6⟩ | ⟨h5, h6⟩
      · simp only [List.length_set] at h3 h5; rw [← r.len] at h5; omega
      · subst h4; subst h6; exact .inr hs
  · rcases own j gj b h1 h3 with ⟨e1, e2, e3, e4⟩ | ⟨e1, e2, e3⟩ <;> rcases own k gk b h2 h4 with ⟨f1, f2, f3, f4⟩ | ⟨f1, f2, f3⟩
    · exact r.apart j k gj gk b e3 f3 h3 h4
    · rcases f3 with f3 | f3
      · exact absurd f3 e4
      · have := (r.own j gj b e3 h3).1; omega
    · rcases e3 with e3 | e3
      · exact absurd e3 f4
      · have := (r.own k gk b f3 h4).1; omega
    · omega
  · rcases own j g' b h1 h2 with ⟨e1, e2, e3, e4⟩ | ⟨e1, e2, e3 | e3⟩
    · exact ⟨Nat.lt_of_lt_of_le (r.own j g' b e3 h2).1 hsz, (r.own j g' b e3 h2).2⟩
    · exact ⟨Nat.lt_of_lt_of_le (r.own i g0 b h0 e3).1 hsz, (r.own i g0 b h0 e3).2⟩
    · exact ⟨e3.2, fun hf => by have := r.fz b hf; omega⟩
  · refine ⟨hos, htp, hout, hsz, fun b hb hn => hw b hb (hn i g0 h0), fun _ h => h, fun _ h => .inl h, fun j g' b h1 h2 => ?_, fun j x _ hx => ext j x hx⟩
    rcases own j g' b h1 h2 with ⟨e1, e2, e3, e4⟩ | ⟨e1, e2, e3 | e3⟩
    · exact .inr ⟨j, g', e3, h2⟩
    · exact .inr ⟨i, g0, h0, e3⟩
    · exact .inl e3.1

/-! ### freezing -/
theorem Reps.length {α : Type} {R : α → List Value → Prop} {n : Nat} (h : ∀ a c, R a c → c.length = n) : ∀ {l xs}, Reps R l xs → xs.length = l.length * n
  | [], xs, r => by rw [show xs = [] from r]; simp
  | a :: l, xs, ⟨c, r, h1, h2, h3⟩ => by rw [h1, List.length_append, h a c h2, Reps.length h h3, List.length_cons, Nat.add_mul]; omega
theorem arr_lies {e : TypeId} {t : Ty} {b off n m : Nat} {cur : Array Value} {xs : List Value} (hb : w.heap[b]? = some (.cells cur e (0, 0))) (hx : (cur.toList.drop off).take m = xs) (hf : Fz b) : Lies w Fz (some ⟨b, off, none⟩) xs := by
  refine .inr ⟨⟨b, off, none⟩, rfl, rfl, hf, fun j u hj => ?_⟩
  rw [Addr.add_lit, World.cell?, hb]
  subst hx
  rw [List.getElem?_take] at hj
  split at hj
  · rw [List.getElem?_drop] at hj
    simpa using hj
  · cases hj
/-- One's own slice, frozen. -/
theorem Rel.freeze (r : Rel C S w Fz gs tbl) (n : Nat) {i : Nat} {g0 : Gh} {e : TypeId} {t : Ty} {l : List t.T} (h0 : gs[i]? = some g0) (hs : tbl[i]? = some (.arr e t l)) :
    ∃ Fz', Rel C S w Fz' (gs.set i ⟨g0.v, none⟩) (tbl.set i (.frz e t l)) ∧ Step n w Fz gs w Fz' (gs.set i ⟨g0.v, none⟩) ∧ RepT C S w Fz' (.slice e t) l [g0.v] := by
  obtain ⟨a, cap, xs, h1, h2, h3, h4, h5⟩ := r.slot i _ g0 hs h0
  have hfx : Fix w Fz w (fun b => Fz b ∨ g0.own = some b) := ⟨fun _ h => .inl h, fun _ _ => rfl⟩
  have hr : RepT C S w (fun b => Fz b ∨ g0.own = some b) (.slice e t) l [g0.v] := by
    refine ⟨a, cap, xs, by rw [h1], h2, Reps.imp (fun _ _ q => RepT.fix hfx q) h4, ?_⟩
    rcases h5 with ⟨h5, h6, h7⟩ | ⟨b, off, cur, h5, h6, h7, h8, h9⟩
    · subst h6
      exact .inl h4
    · rw [h6]
      exact arr_lies (e := e) (t := t) (n := 0) h7 h9 (.inr h5)
  refine ⟨fun b => Fz b ∨ g0.own = some b, ?_⟩
  have := r.upd (w' := w) (Fz' := fun b => Fz b ∨ g0.own = some b) n h0 (.frz e t l) ⟨g0.v, none⟩ rfl (.inl rfl) rfl rfl rfl rfl (fun _ _ => rfl) (fun _ h => .inl h) (fun b h => h.elim .inl (fun h => .inr ⟨h, rfl⟩)) ⟨rfl, hr⟩
  exact ⟨this.1, this.2, hr⟩
/-- A slot given up. -/
theorem Rel.kill (r : Rel C S w Fz gs tbl) (n : Nat) {i : Nat} {g0 : Gh} (h0 : gs[i]? = some g0) : Rel C S w Fz (gs.set i ⟨g0.v, none⟩) (tbl.set i .dead) ∧ Step n w Fz gs w Fz (gs.set i ⟨g0.v, none⟩) :=
  r.upd (w' := w) (Fz' := Fz) n h0 .dead ⟨g0.v, none⟩ rfl (.inl rfl) rfl rfl rfl rfl (fun _ _ => rfl) (fun _ h => h) (fun b h => .inl h) rfl
theorem Rel.gh (r : Rel C S w Fz gs tbl) {i : Nat} {s : Slot} (h : tbl[i]? = some s) : ∃ g, gs[i]? = some g := by
  have := (List.getElem?_eq_some_iff.1 h).1
  rw [← r.len] at this
  exact ⟨_, List.getElem?_eq_getElem this⟩
theorem Rel.sl (r : Rel C S w Fz gs tbl) {i : Nat} {g : Gh} (h : gs[i]? = some g) : ∃ s, tbl[i]? = some s := by
  have := (List.getElem?_eq_some_iff.1 h).1
  rw [r.len] at this
  exact ⟨_, List.getElem?_eq_getElem this⟩
theorem asT0_ok (r : Rel C S w Fz gs tbl) (n : Nat) {t : Ty} {l : Lf} {v : Value} {x : t.T} (hr : RepL C S w Fz gs l v) (h : asT0 t l tbl = some (x, tbl')) :
    ∃ Fz' gs', Rel C S w Fz' gs' tbl' ∧ Step n w Fz gs w Fz' gs' ∧ Ext gs gs' ∧ RepT C S w Fz' t x [v] := by
  unfold asT0 at h
  split at h
  · rename_i k y
    split at h
    · rename_i e
      subst e
      obtain ⟨rfl, rfl⟩ := Prod.mk.inj (Option.some.inj h)
      exact ⟨Fz, gs, r, Step.refl _ _ _ _, Ext.refl _, hr⟩
    · cases h
  · obtain ⟨rfl, rfl⟩ := Prod.mk.inj (Option.some.inj h)
    obtain ⟨a, rfl, _⟩ := hr
    exact ⟨Fz, gs, r, Step.refl _ _ _ _, Ext.refl _, a, 0, [], rfl, Nat.le_refl _, rfl, .inl rfl⟩
  · rename_i e t' j
    obtain ⟨g, a0, n0, c0, hg, hv0, hv⟩ := hr
    replace hv : v = g.v := hv.trans hv0.symm
    split at h
    · rename_i e' t'' l hj
      split at h
      · rename_i he
        obtain ⟨rfl, rfl⟩ := he
        obtain ⟨rfl, rfl⟩ := Prod.mk.inj (Option.some.inj h)
        obtain ⟨Fz', h2, h3, h4⟩ := r.freeze n hg hj
        exact ⟨Fz', _, h2, h3, ext_set hg rfl, by rw [hv]; exact h4⟩
      · cases h
    · rename_i e' t'' l hj
      split at h
      · rename_i he
        obtain ⟨rfl, rfl⟩ := he
        obtain ⟨rfl, rfl⟩ := Prod.mk.inj (Option.some.inj h)
        exact ⟨Fz, gs, r, Step.refl _ _ _ _, Ext.refl _, by rw [hv]; exact (r.slot j _ g hj hg).2⟩
      · cases h
    · cases h
  · obtain ⟨rfl, rfl⟩ := Prod.mk.inj (Option.some.inj h)
    obtain ⟨a, rfl, _⟩ := hr
    exact ⟨Fz, gs, r, Step.refl _ _ _ _, Ext.refl _, a, 0, [], rfl, Nat.le_refl _, rfl, .inl rfl, fun _ => rfl⟩
  · rename_i e t' j
    obtain ⟨g, a0, n0, c0, hg, hv0, hv⟩ := hr
    replace hv : v = g.v := hv.trans hv0.symm
    split at h
    · rename_i e' t'' l hj
      split at h
      · rename_i he
        obtain ⟨rfl, rfl⟩ := he
        obtain ⟨rfl, rfl⟩ := Prod.mk.inj (Option.some.inj h)
        obtain ⟨Fz', h2, h3, a, cap, xs, h4, h5, h6, h7⟩ := r.freeze n hg hj
        exact ⟨Fz', _, h2, h3, ext_set hg rfl, a, cap, xs, by rw [hv]; exact h4, h5, h6, h7, fun e => by cases e⟩
      · cases h
    · rename_i e' t'' l hj
      split at h
      · rename_i he
        obtain ⟨rfl, rfl⟩ := he
        obtain ⟨rfl, rfl⟩ := Prod.mk.inj (Option.some.inj h)
        obtain ⟨a, cap, xs, h4, h5, h6, h7⟩ := (r.slot j _ g hj hg).2
        exact ⟨Fz, gs, r, Step.refl _ _ _ _, Ext.refl _, a, cap, xs, by rw [hv]; exact h4, h5, h6, h7, fun e => by cases e⟩
      · cases h
    · cases h
  · obtain ⟨rfl, rfl⟩ := Prod.mk.inj (Option.some.inj h)
    rw [show v = _ from hr]
    exact ⟨Fz, gs, r, Step.refl _ _ _ _, Ext.refl _, .inl ⟨rfl, rfl⟩⟩
  · cases h
theorem asT_ok (r : Rel C S w Fz gs tbl) (n : Nat) {t : Ty} {l : Lf} {v : Value} {x : t.T} (hr : RepL C S w Fz gs l v) (h : asT t l tbl = some (x, tbl')) :
    ∃ Fz' gs', Rel C S w Fz' gs' tbl' ∧ Step n w Fz gs w Fz' gs' ∧ Ext gs gs' ∧ RepT C S w Fz' t x [v] := by
  cases t with
  | exs e =>
    simp only [asT] at h
    split at h
    · rename_i y s2 h2
      obtain ⟨rfl, rfl⟩ := Prod.mk.inj (Option.some.inj h)
      obtain ⟨Fz', gs', h3, h4, h5, h6⟩ := asT0_ok r n hr h2
      exact ⟨Fz', gs', h3, h4, h5, exs_ro h6⟩
    · cases h
  | _ => exact asT0_ok r n hr h
end
end Go.Proofs.YtnajjhjbkanigaaDoor.Cm
