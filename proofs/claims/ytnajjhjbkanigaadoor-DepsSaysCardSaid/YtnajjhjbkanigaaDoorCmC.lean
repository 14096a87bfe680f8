/- Code as plain functions: how plain data lies in memory, and what a step leaves as it was. By this session. -/
import Derived.Test.YtnajjhjbkanigaaDoorCmB
import Derived.ArgAppend
namespace Go.Proofs.YtnajjhjbkanigaaDoor.Cm
open Go
set_option linter.unusedVariables false
set_option linter.unusedSimpArgs false

structure Gh where
  v : Value
  own : Option Nat
instance : Inhabited Gh := ⟨⟨undef, none⟩⟩

section
variable (C : Cfg) (S : Nat → Addr) (w : World) (Fz : Nat → Prop)
def RepErr : ErrV → Value → Prop
  | .nil, v => v = .nilIface
  | .sent c, v => (∃ g, (c, g) ∈ C.sents) ∧ v = .iface C.te (.pointer (some (S c)))
  | .at_ p e, v => ∃ b u, v = .iface C.ta (.pointer (some ⟨b, 0, none⟩)) ∧ Fz b ∧ w.heap[b]? = some (.cells #[.int .i64 p, u] C.tA (0, 0)) ∧ RepErr e u
/-- Elements behind one another. -/
def Reps {α : Type} (R : α → List Value → Prop) : List α → List Value → Prop
  | [], xs => xs = []
  | a :: l, xs => ∃ c r, xs = c ++ r ∧ R a c ∧ Reps R l r
def Lies (a : Option Addr) (xs : List Value) : Prop := xs = [] ∨ ∃ ad : Addr, a = some ad ∧ ad.spot = none ∧ Fz ad.block ∧ ∀ j u, xs[j]? = some u → w.cell? (ad.add j) = some u
mutual
def RepX : Rx → List Value → Prop
  | .mk op pos n s l, cs => ∃ a cap xs, cs = [.int .i64 op, .int .i64 pos, .int .i64 n, .string s, .slice a l.length cap] ∧ l.length ≤ cap ∧ RepXl l xs ∧ Lies w Fz a xs
def RepXl : List Rx → List Value → Prop
  | [], xs => xs = []
  | a :: l, xs => ∃ c r, xs = c ++ r ∧ RepX a c ∧ RepXl l r
end
def RepT : (t : Ty) → t.T → List Value → Prop
  | .unit, _, cs => cs = []
  | .int k, x, cs => cs = [.int k x]
  | .bool, x, cs => cs = [.bool x]
  | .str, x, cs => cs = [.string x]
  | .err, x, cs => ∃ v, cs = [v] ∧ RepErr C S w Fz x v
  | .atp, x, cs => (x = none ∧ cs = [.pointer none]) ∨ ∃ p e b u, x = some (p, e) ∧ cs = [.pointer (some ⟨b, 0, none⟩)] ∧ Fz b ∧ w.heap[b]? = some (.cells #[.int .i64 p, u] C.tA (0, 0)) ∧ RepErr C S w Fz e u
  | .slice _ t, l, cs => ∃ a cap xs, cs = [.slice a l.length cap] ∧ l.length ≤ cap ∧ Reps (RepT t) l xs ∧ Lies w Fz a xs
  | .fl _ t, x, cs => ∃ a cap xs, cs = [.slice a x.2.length cap] ∧ x.2.length ≤ cap ∧ Reps (RepT t) x.2 xs ∧ Lies w Fz a xs ∧ (x.1 = true → cap = x.2.length)
  | .exs _, l, cs => ∃ a cap xs, cs = [.slice a (List.length (α := Rx) l) cap] ∧ List.length (α := Rx) l ≤ cap ∧ RepXl w Fz l xs ∧ Lies w Fz a xs
  | .pair a b, x, cs => ∃ c1 c2, cs = c1 ++ c2 ∧ RepT a x.1 c1 ∧ RepT b x.2 c2
variable (gs : List Gh)
def RepL : Lf → Value → Prop
  | .val k x, v => RepT C S w Fz k x [v]
  | .undef, _ => True
  | .skp, v => v = undef
  | .opq, v => v.oneCell' = true
  | .emp b, v => ∃ a, v = .slice a 0 0 ∧ (b = true → a = none)
  | .arr s, v => ∃ (g : Gh) (a : Option Addr) (n c : Nat), gs[s]? = some g ∧ g.v = .slice a n c ∧ v = .slice a n c
  | .ptr s off, v => ∃ (g : Gh) (b : Nat), gs[s]? = some g ∧ g.v = .pointer (some ⟨b, 0, none⟩) ∧ v = .pointer (some ⟨b, off, none⟩)
  | .elt s sz i off, v => ∃ (g : Gh) (ad : Addr) (len cap : Nat), gs[s]? = some g ∧ g.v = .slice (some ad) len cap ∧ 0 ≤ i ∧ i < (len : Int) ∧ ad.spot = none ∧ v = .pointer (some (ad.add (i.toNat * sz + off)))
  | .fad k x off, v => ∃ (ad : Addr) (cs : List Value), v = .pointer (some (ad.add off)) ∧ ad.spot = none ∧ Fz ad.block ∧ RepT C S w Fz k x cs ∧ ∀ j u, cs[j]? = some u → w.cell? (ad.add j) = some u
  | .rowv s n, v => ∃ (g : Gh) (b : Nat), gs[s]? = some g ∧ g.v = .pointer (some ⟨b, 0, none⟩) ∧ v = .slice (some ⟨b, 0, none⟩) n n
  | .nilp, v => v = .pointer none
  | .map s, v => ∃ (g : Gh) (b : Nat), gs[s]? = some g ∧ g.v = .map (some b) ∧ v = .map (some b)
  | .nilmap, v => v = .map none
  | .fn f caps, v => ∃ vs : List Value, v = .func (.func f) #[] vs.toArray ∧ vs.length = caps.length ∧ ∀ (i c : Nat), caps[i]? = some c → ∃ (g : Gh) (b : Nat), gs[c]? = some g ∧ g.v = .pointer (some ⟨b, 0, none⟩) ∧ vs[i]? = some (.pointer (some ⟨b, 0, none⟩))
  | .nilf, v => v = .nilFunc
  | .glob g, v => v = .pointer (some ⟨g, 0, none⟩)
def RepLs : List Lf → List Value → Prop
  | [], vs => vs = []
  | l :: r, vs => ∃ v vs', vs = v :: vs' ∧ RepL C S w Fz gs l v ∧ RepLs r vs'
def RepV : Ent → Value → Prop
  | .one l, v => RepL C S w Fz gs l v
  | .agg cs, v => ∃ vs : List Value, v = .agg vs.toArray ∧ RepLs C S w Fz gs cs vs
  | .tup _, _ => True
def RepPs : List (Bool × List Lf) → List Value → Prop
  | [], vs => vs = []
  | p :: r, vs => ∃ v vs', vs = v :: vs' ∧ RepV C S w Fz gs (Ent.part p) v ∧ RepPs r vs'
def RepE : Ent → Value → Prop
  | .tup ps, v => ∃ vs : List Value, v = .tuple vs.toArray ∧ RepPs C S w Fz gs ps vs
  | e, v => RepV C S w Fz gs e v
def RepEs : List Ent → List Value → Prop
  | [], vs => vs = []
  | l :: r, vs => ∃ v vs', vs = v :: vs' ∧ RepE C S w Fz gs l v ∧ RepEs r vs'
def RepVal (ag : Bool) (t : Ty) (x : t.T) (u : Value) : Prop := (ag = true ∧ ∃ cs : List Value, u = .agg cs.toArray ∧ RepT C S w Fz t x cs) ∨ (ag = false ∧ RepT C S w Fz t x [u])
def RepM (kt vt : Ty) (ag : Bool) : List (kt.T × vt.T) → List MapEntry → Prop
  | [], es => es = []
  | p :: r, es => ∃ e es', es = e :: es' ∧ RepT C S w Fz kt p.1 [e.key] ∧ RepVal C S w Fz ag vt p.2 e.val ∧ RepM kt vt ag r es'
/-- .. in whatever order the entries lie; no key is there twice. -/
def RepMp (kt vt : Ty) (ag : Bool) (m : List (kt.T × vt.T)) (es : List MapEntry) : Prop := ∃ m' : List (kt.T × vt.T), RepM C S w Fz kt vt ag m' es ∧ m'.Perm m ∧ (m.map Prod.fst).Nodup
def SlotRep (s : Slot) (g : Gh) : Prop :=
  match s with
  | .dead => g.own = none
  | .arr e t l => ∃ a cap xs, g.v = .slice a l.length cap ∧ l.length ≤ cap ∧ cap ≤ maxLen ∧ Reps (RepT C S w Fz t) l xs ∧
      ((g.own = none ∧ l = [] ∧ cap = 0) ∨ ∃ b off cur, g.own = some b ∧ a = some ⟨b, off, none⟩ ∧ w.heap[b]? = some (.cells cur e (0, 0)) ∧ off + cap * t.size ≤ cur.size ∧ (cur.toList.drop off).take (l.length * t.size) = xs)
  | .frz e t l => g.own = none ∧ RepT C S w Fz (.slice e t) l [g.v]
  | .obj t cs => ∃ b vs, g.v = .pointer (some ⟨b, 0, none⟩) ∧ g.own = some b ∧ w.heap[b]? = some (.cells (vs : List Value).toArray t (0, 0)) ∧ RepLs C S w Fz gs cs vs
  | .map kt vt ag m => ∃ b es clock, g.v = .map (some b) ∧ g.own = some b ∧ w.heap[b]? = some (.map (es : List MapEntry).toArray clock) ∧ RepMp C S w Fz kt vt ag m es ∧ (∀ e ∈ es, e.born < clock) ∧ (es.map (·.born)).Nodup
/-- What is there. -/
structure Rel (tbl : List Slot) : Prop where
  len : gs.length = tbl.length
  slot : ∀ (i : Nat) (s : Slot) (g : Gh), tbl[i]? = some s → gs[i]? = some g → SlotRep C S w Fz gs s g
  apart : ∀ (i j : Nat) (gi gj : Gh) (b : Nat), gs[i]? = some gi → gs[j]? = some gj → gi.own = some b → gj.own = some b → i = j
  own : ∀ (i : Nat) (g : Gh) (b : Nat), gs[i]? = some g → g.own = some b → b < w.heap.size ∧ ¬ Fz b
  fz : ∀ b, Fz b → b < w.heap.size
  glob : ∀ c g, (c, g) ∈ C.sents → Fz g ∧ w.cell? ⟨g, 0, none⟩ = some (.iface C.te (.pointer (some (S c)))) ∧ Fz (S c).block ∧ ∃ ca ta, w.heap[(S c).block]? = some (.cells ca ta (0, 0))
  tab : ∀ p ∈ C.tabs, Fz p.1 ∧ p.2 w.heap[p.1]?
end
/-- What a step leaves as it was. The first n slots stay in their places. -/
structure Step (n : Nat) (w : World) (Fz : Nat → Prop) (gs : List Gh) (w' : World) (Fz' : Nat → Prop) (gs' : List Gh) : Prop where
  os : w'.os = w.os
  tape : w'.tape = w.tape
  output : w'.output = w.output
  size : w.heap.size ≤ w'.heap.size
  keep : ∀ b, b < w.heap.size → (∀ (i : Nat) (g : Gh), gs[i]? = some g → g.own ≠ some b) → w'.heap[b]? = w.heap[b]?
  fz : ∀ b, Fz b → Fz' b
  fznew : ∀ b, Fz' b → Fz b ∨ w.heap.size ≤ b ∨ ∃ (i : Nat) (g : Gh), gs[i]? = some g ∧ g.own = some b
  own : ∀ (i : Nat) (g : Gh) (b : Nat), gs'[i]? = some g → g.own = some b → w.heap.size ≤ b ∨ ∃ (i : Nat) (g : Gh), gs[i]? = some g ∧ g.own = some b
  ext : ∀ (i : Nat) (g : Gh), i < n → gs[i]? = some g → ∃ g' : Gh, gs'[i]? = some g' ∧ g'.v = g.v

/-! ### what stays -/
/-- Frozen blocks stay, and more may be frozen. -/
structure Fix (w : World) (Fz : Nat → Prop) (w' : World) (Fz' : Nat → Prop) : Prop where
  fz : ∀ b, Fz b → Fz' b
  heap : ∀ b, Fz b → w'.heap[b]? = w.heap[b]?
theorem Fix.refl (w : World) (Fz : Nat → Prop) : Fix w Fz w Fz := ⟨fun _ h => h, fun _ _ => rfl⟩
theorem Fix.cell {w w' : World} {Fz Fz' : Nat → Prop} (h : Fix w Fz w' Fz') {a : Addr} (ha : Fz a.block) : w'.cell? a = w.cell? a := World.cell?_of_block (h.heap _ ha)
section
variable {C : Cfg} {S : Nat → Addr} {w w' : World} {Fz Fz' : Nat → Prop} {gs gs' : List Gh}
theorem RepErr.fix (h : Fix w Fz w' Fz') : ∀ {e v}, RepErr C S w Fz e v → RepErr C S w' Fz' e v
  | .nil, v, r => r
  | .sent c, v, r => r
  | .at_ p e, v, ⟨b, u, h1, h2, h3, h4⟩ => ⟨b, u, h1, h.fz b h2, (h.heap b h2).trans h3, RepErr.fix h h4⟩
theorem Reps.imp {α : Type} {R R' : α → List Value → Prop} (h : ∀ a c, R a c → R' a c) : ∀ {l xs}, Reps R l xs → Reps R' l xs
  | [], xs, r => r
  | a :: l, xs, ⟨c, r, h1, h2, h3⟩ => ⟨c, r, h1, h a c h2, Reps.imp h h3⟩
theorem Lies.fix (h : Fix w Fz w' Fz') {a : Option Addr} {xs : List Value} (l : Lies w Fz a xs) : Lies w' Fz' a xs := by
  rcases l with l | ⟨ad, h1, h2, h3, h4⟩
  · exact .inl l
  · refine .inr ⟨ad, h1, h2, h.fz _ h3, fun j u hj => ?_⟩
    rw [h.cell (a := ad.add j) (by unfold Addr.add; split <;> exact h3)]
    exact h4 j u hj
mutual
theorem RepX.fix (h : Fix w Fz w' Fz') : ∀ {x : Rx} {cs}, RepX w Fz x cs → RepX w' Fz' x cs
  | .mk op pos n s l, cs, ⟨a, cap, xs, h1, h2, h3, h4⟩ => ⟨a, cap, xs, h1, h2, RepXl.fix h h3, h4.fix h⟩
theorem RepXl.fix (h : Fix w Fz w' Fz') : ∀ {l : List Rx} {xs}, RepXl w Fz l xs → RepXl w' Fz' l xs
  | [], xs, r => r
  | a :: l, xs, ⟨c, r, h1, h2, h3⟩ => ⟨c, r, h1, RepX.fix h h2, RepXl.fix h h3⟩
end
theorem RepT.fix (h : Fix w Fz w' Fz') : ∀ {t : Ty} {x : t.T} {cs}, RepT C S w Fz t x cs → RepT C S w' Fz' t x cs
  | .unit, x, cs, r => r
  | .int _, x, cs, r => r
  | .bool, x, cs, r => r
  | .str, x, cs, r => r
  | .err, x, cs, ⟨v, h1, h2⟩ => ⟨v, h1, h2.fix h⟩
  | .atp, x, cs, .inl r => .inl r
  | .atp, x, cs, .inr ⟨p, e, b, u, h1, h2, h3, h4, h5⟩ => .inr ⟨p, e, b, u, h1, h2, h.fz b h3, (h.heap b h3).trans h4, h5.fix h⟩
  | .slice _ t, l, cs, ⟨a, cap, xs, h1, h2, h3, h4⟩ => ⟨a, cap, xs, h1, h2, Reps.imp (fun x c r => RepT.fix h r) h3, h4.fix h⟩
  | .fl _ t, l, cs, ⟨a, cap, xs, h1, h2, h3, h4, h5⟩ => ⟨a, cap, xs, h1, h2, Reps.imp (fun x c r => RepT.fix h r) h3, h4.fix h, h5⟩
  | .exs _, l, cs, ⟨a, cap, xs, h1, h2, h3, h4⟩ => ⟨a, cap, xs, h1, h2, h3.fix h, h4.fix h⟩
  | .pair a b, x, cs, ⟨c1, c2, h1, h2, h3⟩ => ⟨c1, c2, h1, RepT.fix h h2, RepT.fix h h3⟩
/-- A structure that contains itself, cell by cell. -/
theorem RepX.iff {e : TypeId} {x : Rx} {cs : List Value} : RepX w Fz x cs ↔ RepT C S w Fz (tyEx e) x.un cs := by
  obtain ⟨op, pos, n, s, l⟩ := x
  constructor
  · rintro ⟨a, cap, xs, h1, h2, h3, h4⟩
    exact ⟨[_], _, h1, rfl, [_], _, rfl, rfl, [_], _, rfl, rfl, [_], _, rfl, rfl, a, cap, xs, rfl, h2, h3, h4⟩
  · rintro ⟨c1, r1, h1, k1, c2, r2, h2, k2, c3, r3, h3, k3, c4, r4, h4, k4, a, cap, xs, h5, h6, h7, h8⟩
    refine ⟨a, cap, xs, ?_, h6, h7, h8⟩
    have k1 : c1 = [.int .i64 op] := k1
    have k2 : c2 = [.int .i64 pos] := k2
    have k3 : c3 = [.int .i64 n] := k3
    have k4 : c4 = [.string s] := k4
    rw [h1, h2, h3, h4, h5, k1, k2, k3, k4]
    rfl
theorem RepXl.iff {e : TypeId} : ∀ {l : List Rx} {xs : List Value}, RepXl w Fz l xs ↔ Reps (RepT C S w Fz (tyEx e)) (l.map Rx.un) xs
  | [], xs => Iff.rfl
  | x :: l, xs => by
    constructor
    · rintro ⟨c, r, h1, h2, h3⟩
      exact ⟨c, r, h1, RepX.iff.1 h2, RepXl.iff.1 h3⟩
    · rintro ⟨c, r, h1, h2, h3⟩
      exact ⟨c, r, h1, RepX.iff.2 h2, RepXl.iff.2 h3⟩
theorem exs_iff {e : TypeId} {l : List Rx} {cs : List Value} : RepT C S w Fz (.exs e) l cs ↔ RepT C S w Fz (.slice e (tyEx e)) (l.map Rx.un) cs := by
  have hl : (l.map Rx.un).length = l.length := List.length_map ..
  constructor
  · rintro ⟨a, cap, xs, h1, h2, h3, h4⟩
    exact ⟨a, cap, xs, by rw [h1]; show _ = [Value.slice a (l.map Rx.un).length cap]; rw [hl], by show (l.map Rx.un).length ≤ cap; omega, RepXl.iff.1 h3, h4⟩
  · rintro ⟨a, cap, xs, h1, h2, h3, h4⟩
    have h1 : cs = [Value.slice a (l.map Rx.un).length cap] := h1
    have h2 : (l.map Rx.un).length ≤ cap := h2
    exact ⟨a, cap, xs, by rw [h1, hl], by omega, RepXl.iff.2 h3, h4⟩
theorem exs_ro {e : TypeId} {l : List (tyEx e).T} {cs : List Value} (h : RepT C S w Fz (.slice e (tyEx e)) l cs) : RepT C S w Fz (.exs e) (l.map Rx.ro) cs := by
  rw [exs_iff, List.map_map, show Rx.un ∘ Rx.ro = id from rfl, List.map_id]
  exact h
/-- Slots stay in their places. -/
def Ext (gs gs' : List Gh) : Prop := ∀ (i : Nat) (g : Gh), gs[i]? = some g → ∃ g' : Gh, gs'[i]? = some g' ∧ g'.v = g.v
theorem Ext.refl (gs : List Gh) : Ext gs gs := fun i g h => ⟨g, h, rfl⟩
theorem Ext.trans {a b c : List Gh} (h : Ext a b) (k : Ext b c) : Ext a c := fun i g hg => by
  obtain ⟨g1, h1, h2⟩ := h i g hg
  obtain ⟨g2, h3, h4⟩ := k i g1 h1
  exact ⟨g2, h3, h4.trans h2⟩
theorem RepL.fix (h : Fix w Fz w' Fz') (x : Ext gs gs') {l : Lf} {v : Value} (r : RepL C S w Fz gs l v) : RepL C S w' Fz' gs' l v := by
  cases l with
  | val k y => exact RepT.fix h r
  | undef => exact r
  | skp => exact r
  | opq => exact r
  | emp b => exact r
  | arr s => obtain ⟨g, a, n, c, h1, h2, h3⟩ := r; obtain ⟨g', h4, h5⟩ := x s g h1; exact ⟨g', a, n, c, h4, h5.trans h2, h3⟩
  | ptr s off => obtain ⟨g, b, h1, h2, h3⟩ := r; obtain ⟨g', h4, h5⟩ := x s g h1; exact ⟨g', b, h4, h5.trans h2, h3⟩
  | elt s sz i off => obtain ⟨g, ad, len, cap, h1, h2, h3⟩ := r; obtain ⟨g', h4, h5⟩ := x s g h1; exact ⟨g', ad, len, cap, h4, h5.trans h2, h3⟩
  | fad k y off =>
    obtain ⟨ad, cs, h1, h2, h3, h4, h5⟩ := r
    refine ⟨ad, cs, h1, h2, h.fz _ h3, RepT.fix h h4, fun j u hj => ?_⟩
    rw [h.cell (a := ad.add j) (by unfold Addr.add; split <;> exact h3)]
    exact h5 j u hj
  | rowv s n => obtain ⟨g, b, h1, h2, h3⟩ := r; obtain ⟨g', h4, h5⟩ := x s g h1; exact ⟨g', b, h4, h5.trans h2, h3⟩
  | nilp => exact r
  | map s => obtain ⟨g, b, h1, h2, h3⟩ := r; obtain ⟨g', h4, h5⟩ := x s g h1; exact ⟨g', b, h4, h5.trans h2, h3⟩
  | nilmap => exact r
  | fn f caps =>
    obtain ⟨vs, h1, h2, h3⟩ := r
    refine ⟨vs, h1, h2, fun i c hc => ?_⟩
    obtain ⟨g, b, h4, h5, h6⟩ := h3 i c hc
    obtain ⟨g', h7, h8⟩ := x c g h4
    exact ⟨g', b, h7, h8.trans h5, h6⟩
  | nilf => exact r
  | glob g => exact r
theorem RepLs.fix (h : Fix w Fz w' Fz') (x : Ext gs gs') : ∀ {ls vs}, RepLs C S w Fz gs ls vs → RepLs C S w' Fz' gs' ls vs
  | [], vs, r => r
  | l :: ls, vs, ⟨v, vs', h1, h2, h3⟩ => ⟨v, vs', h1, h2.fix h x, RepLs.fix h x h3⟩
theorem RepV.fix (h : Fix w Fz w' Fz') (x : Ext gs gs') {e : Ent} {v : Value} (r : RepV C S w Fz gs e v) : RepV C S w' Fz' gs' e v := by
  cases e with
  | one l => exact RepL.fix h x r
  | agg cs => obtain ⟨vs, h1, h2⟩ := r; exact ⟨vs, h1, h2.fix h x⟩
  | tup ps => trivial
theorem RepPs.fix (h : Fix w Fz w' Fz') (x : Ext gs gs') : ∀ {ls vs}, RepPs C S w Fz gs ls vs → RepPs C S w' Fz' gs' ls vs
  | [], vs, r => r
  | l :: ls, vs, ⟨v, vs', h1, h2, h3⟩ => ⟨v, vs', h1, h2.fix h x, RepPs.fix h x h3⟩
theorem RepE.fix (h : Fix w Fz w' Fz') (x : Ext gs gs') {e : Ent} {v : Value} (r : RepE C S w Fz gs e v) : RepE C S w' Fz' gs' e v := by
  cases e with
  | one l => exact RepL.fix h x r
  | agg cs => exact RepV.fix (e := .agg cs) h x r
  | tup ps => obtain ⟨vs, h1, h2⟩ := r; exact ⟨vs, h1, h2.fix h x⟩
theorem RepEs.fix (h : Fix w Fz w' Fz') (x : Ext gs gs') : ∀ {ls vs}, RepEs C S w Fz gs ls vs → RepEs C S w' Fz' gs' ls vs
  | [], vs, r => r
  | l :: ls, vs, ⟨v, vs', h1, h2, h3⟩ => ⟨v, vs', h1, h2.fix h x, RepEs.fix h x h3⟩
theorem RepVal.fix (h : Fix w Fz w' Fz') {ag : Bool} {t : Ty} {x : t.T} {u : Value} (r : RepVal C S w Fz ag t x u) : RepVal C S w' Fz' ag t x u := by
  rcases r with ⟨h1, cs, h2, h3⟩ | ⟨h1, h2⟩
  · exact .inl ⟨h1, cs, h2, h3.fix h⟩
  · exact .inr ⟨h1, h2.fix h⟩
theorem RepM.fix (h : Fix w Fz w' Fz') {kt vt : Ty} {ag : Bool} : ∀ {m es}, RepM C S w Fz kt vt ag m es → RepM C S w' Fz' kt vt ag m es
  | [], es, r => r
  | p :: m, es, ⟨e, es', h1, h2, h4, h5⟩ => ⟨e, es', h1, h2.fix h, h4.fix h, RepM.fix h h5⟩
theorem RepMp.fix (h : Fix w Fz w' Fz') {kt vt : Ty} {ag : Bool} {m es} (r : RepMp C S w Fz kt vt ag m es) : RepMp C S w' Fz' kt vt ag m es := by
  obtain ⟨m', h1, h2, h3⟩ := r
  exact ⟨m', h1.fix h, h2, h3⟩
theorem RepMp.nil {kt vt : Ty} {ag : Bool} : RepMp C S w Fz kt vt ag [] [] := ⟨[], rfl, .nil, List.nodup_nil⟩
/-- A slot whose own block stays is told as it was. -/
theorem SlotRep.fix (h : Fix w Fz w' Fz') (x : Ext gs gs') {s : Slot} {g : Gh} (r : SlotRep C S w Fz gs s g) (hb : ∀ b, g.own = some b → w'.heap[b]? = w.heap[b]?) : SlotRep C S w' Fz' gs' s g := by
  cases s with
  | dead => exact r
  | arr e t l =>
    obtain ⟨a, cap, xs, h1, h2, h3, h4, h5⟩ := r
    refine ⟨a, cap, xs, h1, h2, h3, Reps.imp (fun _ _ r => RepT.fix h r) h4, ?_⟩
    rcases h5 with h5 | ⟨b, off, cur, h5, h6, h7, h8⟩
    · exact .inl h5
    · exact .inr ⟨b, off, cur, h5, h6, (hb b h5).trans h7, h8⟩
  | frz e t l => exact ⟨r.1, RepT.fix h r.2⟩
  | obj t cs =>
    obtain ⟨b, vs, h1, h2, h3, h4⟩ := r
    exact ⟨b, vs, h1, h2, (hb b h2).trans h3, h4.fix h x⟩
  | map kt vt ag m =>
    obtain ⟨b, es, clock, h1, h2, h3, h4, h5⟩ := r
    exact ⟨b, es, clock, h1, h2, (hb b h2).trans h3, h4.fix h, h5⟩
theorem Step.fix {n : Nat} (h : Step n w Fz gs w' Fz' gs') (r : ∃ tbl, Rel C S w Fz gs tbl) : Fix w Fz w' Fz' := by
  obtain ⟨tbl, r⟩ := r
  exact ⟨h.fz, fun b hb => h.keep b (r.fz b hb) (fun i g hg e => (r.own i g b hg e).2 hb)⟩
theorem Step.refl (n : Nat) (w : World) (Fz : Nat → Prop) (gs : List Gh) : Step n w Fz gs w Fz gs :=
  ⟨rfl, rfl, rfl, Nat.le_refl _, fun _ _ _ => rfl, fun _ h => h, fun _ h => .inl h, fun i g b hg ho => .inr ⟨i, g, hg, ho⟩, fun i g _ hg => ⟨g, hg, rfl⟩⟩
theorem Step.trans {n : Nat} {w1 w2 w3 : World} {F1 F2 F3 : Nat → Prop} {g1 g2 g3 : List Gh} (h : Step n w1 F1 g1 w2 F2 g2) (k : Step n w2 F2 g2 w3 F3 g3) : Step n w1 F1 g1 w3 F3 g3 := by
  refine ⟨k.os.trans h.os, k.tape.trans h.tape, k.output.trans h.output, Nat.le_trans h.size k.size, fun b hb hn => ?_, fun b hb => k.fz b (h.fz b hb), fun b hb => ?_, fun i g b hg ho => ?_, fun i g hi hg => ?_⟩
  · rw [k.keep b (Nat.lt_of_lt_of_le hb h.size) (fun i g hg e => ?_), h.keep b hb hn]
    rcases h.own i g b hg e with h1 | ⟨j, g', h1, h2⟩
    · exact absurd hb (Nat.not_lt_of_le h1)
    · exact hn j g' h1 h2
  · rcases k.fznew b hb with h1 | h1 | ⟨i, g, h1, h2⟩
    · exact h.fznew b h1
    · exact .inr (.inl (Nat.le_trans h.size h1))
    · exact .inr (h.own i g b h1 h2)
  · rcases k.own i g b hg ho with h1 | ⟨j, g', h1, h2⟩
    · exact .inl (Nat.le_trans h.size h1)
    · exact h.own j g' b h1 h2
  · obtain ⟨g', h1, h2⟩ := h.ext i g hi hg
    obtain ⟨g'', h3, h4⟩ := k.ext i g' hi h1
    exact ⟨g'', h3, h4.trans h2⟩
theorem Step.ext' {n : Nat} (h : Step n w Fz gs w' Fz' gs') (hn : gs.length ≤ n) : Ext gs gs' := fun i g hg => h.ext i g (Nat.lt_of_lt_of_le (List.getElem?_eq_some_iff.1 hg).1 hn) hg
theorem Step.le {n m : Nat} (h : Step n w Fz gs w' Fz' gs') (hm : m ≤ n) : Step m w Fz gs w' Fz' gs' := { h with ext := fun i g hi hg => h.ext i g (Nat.lt_of_lt_of_le hi hm) hg }

/-! ### cells of plain data -/
theorem RepT.size : ∀ {t : Ty} {x : t.T} {cs}, RepT C S w Fz t x cs → cs.length = t.size
  | .unit, x, cs, r => by rw [show cs = [] from r]; rfl
  | .int _, x, cs, r => by rw [show cs = [_] from r]; rfl
  | .bool, x, cs, r => by rw [show cs = [_] from r]; rfl
  | .str, x, cs, r => by rw [show cs = [_] from r]; rfl
  | .err, x, cs, ⟨v, h1, h2⟩ => by rw [h1]; rfl
  | .atp, x, cs, .inl ⟨_, r⟩ => by rw [r]; rfl
  | .atp, x, cs, .inr ⟨p, e, b, u, h1, h2, _⟩ => by rw [h2]; rfl
  | .slice _ t, l, cs, ⟨a, cap, xs, h1, _⟩ => by rw [h1]; rfl
  | .fl _ t, l, cs, ⟨a, cap, xs, h1, _⟩ => by rw [h1]; rfl
  | .exs _, l, cs, ⟨a, cap, xs, h1, _⟩ => by rw [h1]; rfl
  | .pair a b, x, cs, ⟨c1, c2, h1, h2, h3⟩ => by rw [h1, List.length_append, RepT.size h2, RepT.size h3]; rfl
theorem RepErr.one : ∀ {e v}, RepErr C S w Fz e v → v.oneCell' = true
  | .nil, v, r => by rw [show v = _ from r]; rfl
  | .sent c, v, r => by rw [r.2]; rfl
  | .at_ p e, v, ⟨b, u, h1, _⟩ => by rw [h1]; rfl
theorem RepT.one : ∀ {t : Ty} {x : t.T} {cs}, RepT C S w Fz t x cs → ∀ u ∈ cs, u.oneCell' = true
  | .unit, x, cs, r => by rw [show cs = [] from r]; simp
  | .int _, x, cs, r => by rw [show cs = [_] from r]; simp [Value.oneCell']
  | .bool, x, cs, r => by rw [show cs = [_] from r]; simp [Value.oneCell']
  | .str, x, cs, r => by rw [show cs = [_] from r]; simp [Value.oneCell']
  | .err, x, cs, ⟨v, h1, h2⟩ => by rw [h1]; simpa using h2.one
  | .atp, x, cs, .inl ⟨_, r⟩ => by rw [r]; simp [Value.oneCell']
  | .atp, x, cs, .inr ⟨p, e, b, u, h1, h2, _⟩ => by rw [h2]; simp [Value.oneCell']
  | .slice _ t, l, cs, ⟨a, cap, xs, h1, _⟩ => by rw [h1]; simp [Value.oneCell']
  | .fl _ t, l, cs, ⟨a, cap, xs, h1, _⟩ => by rw [h1]; simp [Value.oneCell']
  | .exs _, l, cs, ⟨a, cap, xs, h1, _⟩ => by rw [h1]; simp [Value.oneCell']
  | .pair a b, x, cs, ⟨c1, c2, h1, h2, h3⟩ => by
    rw [h1]
    intro u hu
    rcases List.mem_append.1 hu with hu | hu
    · exact RepT.one h2 u hu
    · exact RepT.one h3 u hu
theorem RepLs.append : ∀ {l1 l2 : List Lf} {v1 v2}, RepLs C S w Fz gs l1 v1 → RepLs C S w Fz gs l2 v2 → RepLs C S w Fz gs (l1 ++ l2) (v1 ++ v2)
  | [], l2, v1, v2, r1, r2 => by rw [show v1 = [] from r1]; exact r2
  | l :: l1, l2, v1, v2, ⟨v, vs, h1, h2, h3⟩, r2 => ⟨v, vs ++ v2, by rw [h1]; rfl, h2, RepLs.append h3 r2⟩
theorem explode_rep : ∀ {t : Ty} {x : t.T} {cs}, RepT C S w Fz t x cs → RepLs C S w Fz gs (explode t x) cs
  | .unit, x, cs, r => r
  | .int _, x, cs, r => ⟨_, [], r, rfl, rfl⟩
  | .bool, x, cs, r => ⟨_, [], r, rfl, rfl⟩
  | .str, x, cs, r => ⟨_, [], r, rfl, rfl⟩
  | .err, x, cs, ⟨v, h1, h2⟩ => ⟨v, [], h1, ⟨v, rfl, h2⟩, rfl⟩
  | .atp, x, cs, .inl ⟨h1, r⟩ => ⟨_, [], r, .inl ⟨h1, rfl⟩, rfl⟩
  | .atp, x, cs, .inr ⟨p, e, b, u, h1, h2, h3⟩ => ⟨_, [], h2, .inr ⟨p, e, b, u, h1, rfl, h3⟩, rfl⟩
  | .slice _ t, l, cs, ⟨a, cap, xs, h1, h2⟩ => ⟨_, [], h1, ⟨a, cap, xs, rfl, h2⟩, rfl⟩
  | .fl _ t, l, cs, ⟨a, cap, xs, h1, h2⟩ => ⟨_, [], h1, ⟨a, cap, xs, rfl, h2⟩, rfl⟩
  | .exs e, l, cs, r => by
    obtain ⟨a, cap, xs, h1, h2⟩ := exs_iff.1 r
    exact ⟨_, [], h1, ⟨a, cap, xs, rfl, h2⟩, rfl⟩
  | .pair a b, x, cs, ⟨c1, c2, h1, h2, h3⟩ => by rw [h1]; exact RepLs.append (explode_rep h2) (explode_rep h3)
theorem RepLs.length : ∀ {ls : List Lf} {vs}, RepLs C S w Fz gs ls vs → vs.length = ls.length
  | [], vs, r => by rw [show vs = [] from r]; rfl
  | l :: ls, vs, ⟨v, vs', h1, h2, h3⟩ => by rw [h1]; simp [RepLs.length h3]
theorem RepLs.drop : ∀ {ls : List Lf} {vs}, RepLs C S w Fz gs ls vs → ∀ n, RepLs C S w Fz gs (ls.drop n) (vs.drop n)
  | [], vs, r, n => by rw [show vs = [] from r]; simp; rfl
  | l :: ls, vs, r, 0 => r
  | l :: ls, vs, ⟨v, vs', h1, h2, h3⟩, n + 1 => by rw [h1]; exact RepLs.drop h3 n
theorem RepLs.take : ∀ {ls : List Lf} {vs}, RepLs C S w Fz gs ls vs → ∀ n, RepLs C S w Fz gs (ls.take n) (vs.take n)
  | [], vs, r, n => by rw [show vs = [] from r]; simp; rfl
  | l :: ls, vs, r, 0 => rfl
  | l :: ls, vs, ⟨v, vs', h1, h2, h3⟩, n + 1 => by rw [h1]; exact ⟨v, vs'.take n, rfl, h2, RepLs.take h3 n⟩
theorem RepLs.get : ∀ {ls : List Lf} {vs}, RepLs C S w Fz gs ls vs → ∀ {n : Nat} {l : Lf}, ls[n]? = some l → ∃ v, vs[n]? = some v ∧ RepL C S w Fz gs l v
  | [], vs, r, n, l, h => by simp at h
  | l0 :: ls, vs, ⟨v, vs', h1, h2, h3⟩, 0, l, h => by simp at h; subst h; exact ⟨v, by rw [h1]; rfl, h2⟩
  | l0 :: ls, vs, ⟨v, vs', h1, h2, h3⟩, n + 1, l, h => by
    simp at h
    obtain ⟨u, h4, h5⟩ := RepLs.get h3 h
    exact ⟨u, by rw [h1]; simpa using h4, h5⟩
theorem RepL.one {l : Lf} {v : Value} (r : RepL C S w Fz gs l v) (h : l.isCell = true) : v.oneCell' = true := by
  cases l with
  | val k y => exact RepT.one r v (by simp)
  | undef => cases h
  | skp => cases h
  | opq => exact r
  | emp b => obtain ⟨a, rfl, _⟩ := r; rfl
  | arr s => obtain ⟨g, a, n, c, h1, h2, rfl⟩ := r; rfl
  | ptr s off => obtain ⟨g, b, h1, h2, rfl⟩ := r; rfl
  | elt s sz i off => obtain ⟨g, ad, len, cap, h1, h2, h3, h4, h5, rfl⟩ := r; rfl
  | fad k y off => obtain ⟨ad, cs, rfl, _⟩ := r; rfl
  | rowv s n => obtain ⟨g, b, h1, h2, rfl⟩ := r; rfl
  | nilp => rw [show v = _ from r]; rfl
  | map s => obtain ⟨g, b, h1, h2, rfl⟩ := r; rfl
  | nilmap => rw [show v = _ from r]; rfl
  | fn f caps => obtain ⟨vs, rfl, _⟩ := r; rfl
  | nilf => rw [show v = _ from r]; rfl
  | glob g => rw [show v = _ from r]; rfl
theorem cells_one {v : Value} (h : v.oneCell' = true) : v.cells = #[v] := by cases v <;> first | rfl | (simp [Value.oneCell'] at h)
theorem RepLs.one : ∀ {ls : List Lf} {vs}, RepLs C S w Fz gs ls vs → ls.all Lf.isCell = true → ∀ u ∈ vs, u.oneCell' = true
  | [], vs, r, _ => by rw [show vs = [] from r]; simp
  | l :: ls, vs, ⟨v, vs', h1, h2, h3⟩, h => by
    simp only [List.all_cons, Bool.and_eq_true] at h
    rw [h1]
    intro u hu
    rcases List.mem_cons.1 hu with rfl | hu
    · exact h2.one h.1
    · exact RepLs.one h3 h.2 u hu
/-- The cells of a value that is no tuple. -/
theorem okc_cells {e : Ent} {v : Value} (h : e.okc = true) (r : RepE C S w Fz gs e v) : RepLs C S w Fz gs e.cells v.cells.toList ∧ (∀ u ∈ v.cells.toList, u.oneCell' = true) ∧ v.cells.size = e.cells.length := by
  have key : RepLs C S w Fz gs e.cells v.cells.toList ∧ (∀ u ∈ v.cells.toList, u.oneCell' = true) := by
    cases e with
    | one l =>
      have h1 : v.oneCell' = true := RepL.one (l := l) r h
      rw [cells_one h1]
      exact ⟨⟨v, [], rfl, r, rfl⟩, by simpa using h1⟩
    | agg cs => obtain ⟨vs, rfl, h2⟩ := r; exact ⟨h2, RepLs.one h2 h⟩
    | tup ps => cases h
  exact ⟨key.1, key.2, by rw [← Array.length_toList]; exact key.1.length⟩
theorem okc_agg {e : Ent} {v : Value} (h : e.okc = true) (r : RepE C S w Fz gs e v) : (e.isAgg = true → ∃ vs : List Value, v = .agg vs.toArray) ∧ (e.isAgg = false → v.oneCell' = true) := by
  cases e with
  | one l => exact ⟨fun e => by simp [Ent.isAgg] at e, fun _ => RepL.one (l := l) r h⟩
  | agg cs => obtain ⟨vs, rfl, h2⟩ := r; exact ⟨fun _ => ⟨vs, rfl⟩, fun e => by simp [Ent.isAgg] at e⟩
  | tup ps => cases h
end
end Go.Proofs.YtnajjhjbkanigaaDoor.Cm
