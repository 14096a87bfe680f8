/- Code as plain functions: operations that make memory. By this session. -/
import Derived.Test.YtnajjhjbkanigaaDoorCmF
import Derived.Laws.Tables
import Derived.Great.BuildSlice
import Derived.MapKept
namespace Go.Proofs.YtnajjhjbkanigaaDoor.Cm
open Go
set_option linter.unusedVariables false
set_option linter.unusedSimpArgs false
section
variable {P : Program} {C : Cfg} {S : Nat → Addr} {w : World} {Fz : Nat → Prop} {gs : List Gh} {tbl : List Slot} {R : Type}
/-- An operation's run answers, and what is there behind it is told. -/
def Did (P : Program) (C : Cfg) (S : Nat → Addr) (w : World) (Fz : Nat → Prop) (gs : List Gh) (run : Result Value) (K : Ent → List Slot → Option R) (r : R) : Prop :=
  ∃ v w' Fz' gs' e s', run = .ok v w' ∧ Rel C S w' Fz' gs' s' ∧ RepE C S w' Fz' gs' e v ∧ Step gs.length w Fz gs w' Fz' gs' ∧ K e s' = some r
theorem Did.same (rel : Rel C S w Fz gs tbl) {run : Result Value} {K : Ent → List Slot → Option R} {r : R} (h : ∃ v e, run = .ok v w ∧ RepE C S w Fz gs e v ∧ K e tbl = some r) : Did P C S w Fz gs run K r := by
  obtain ⟨v, e, h1, h2, h3⟩ := h
  exact ⟨v, w, Fz, gs, e, tbl, h1, rel, h2, Step.refl _ _ _ _, h3⟩
theorem lfOf_rep (v : Value) : RepL C S w Fz gs (lfOf v) v := by
  unfold lfOf
  split <;> first
    | rfl
    | exact ⟨_, rfl, rfl⟩
    | exact ⟨none, rfl, fun _ => rfl⟩
    | trivial
    | skip
  rename_i h1 h2 h3 h4 h5 h6 h7 h8 h9 h10
  show v.oneCell' = true
  cases v <;> first | rfl | (exfalso; simp_all)
theorem lfOfs_rep : ∀ (vs : List Value), RepLs C S w Fz gs (vs.map lfOf) vs
  | [] => rfl
  | v :: vs => ⟨v, vs, rfl, lfOf_rep v, lfOfs_rep vs⟩
theorem entOf_rep (v : Value) : RepE C S w Fz gs (entOf v) v := by
  unfold entOf
  split
  · rename_i cs
    exact ⟨cs.toList, by simp, lfOfs_rep _⟩
  · exact lfOf_rep v
theorem entOf_cells (v : Value) : RepLs C S w Fz gs (entOf v).cells v.cells.toList := by
  unfold entOf
  split
  · exact lfOfs_rep _
  · rename_i h
    have : v.cells = #[v] := by cases v <;> first | rfl | exact absurd rfl (h _)
    rw [this]
    exact ⟨v, [], rfl, lfOf_rep v, rfl⟩
theorem zero_run {t : TypeId} {z : Ent} (h : zeroEnt P t = some z) : ∃ i v, P.info? t = some i ∧ i.zero = some v ∧ z = entOf v ∧ ∀ w, (zeroValue t).run P w = .ok v w := by
  unfold zeroEnt at h
  split at h
  · rename_i i hi
    cases hz : i.zero with
    | none => rw [hz] at h; cases h
    | some v =>
      rw [hz] at h
      refine ⟨i, v, hi, hz, (Option.some.inj h).symm, fun w => ?_⟩
      simp [zeroValue, typeInfo, hi, hz]
  · cases h
theorem heap_new (w : World) (o : Obj) : (w.alloc o).heap[w.heap.size]? = some o := (MapKept.heap_alloc w o).1
theorem get_last (gs : List Gh) (g : Gh) : (gs ++ [g])[gs.length]? = some g := by simp
theorem ptr_rep {s b off : Nat} {g : Gh} (h : gs[s]? = some g) (hv : g.v = .pointer (some ⟨b, 0, none⟩)) : RepE C S w Fz gs (.one (.ptr s off)) (.pointer (some ⟨b, off, none⟩)) := ⟨g, b, h, hv, rfl⟩
theorem arr_rep {s n c : Nat} {a : Option Addr} {g : Gh} (h : gs[s]? = some g) (hv : g.v = .slice a n c) : RepE C S w Fz gs (.one (.arr s)) (.slice a n c) := ⟨g, a, n, c, h, hv, rfl⟩
theorem rowv_rep {s b n : Nat} {g : Gh} (h : gs[s]? = some g) (hv : g.v = .pointer (some ⟨b, 0, none⟩)) : RepE C S w Fz gs (.one (.rowv s n)) (.slice (some ⟨b, 0, none⟩) n n) := ⟨g, b, h, hv, rfl⟩
theorem map_rep {s b : Nat} {g : Gh} (h : gs[s]? = some g) (hv : g.v = .map (some b)) : RepE C S w Fz gs (.one (.map s)) (.map (some b)) := ⟨g, b, h, hv, rfl⟩
theorem last_at {gs : List Gh} {tbl : List Slot} (h : gs.length = tbl.length) (g : Gh) : (gs ++ [g])[tbl.length]? = some g := by rw [← h]; exact get_last gs g
/-- A new block of cells. -/
theorem Rel.obj (rel : Rel C S w Fz gs tbl) (t : TypeId) {cs : List Lf} {vs : List Value} (hr : RepLs C S w Fz gs cs vs) :
    Rel C S (w.alloc (.cells vs.toArray t)) Fz (gs ++ [⟨.pointer (some ⟨w.heap.size, 0, none⟩), some w.heap.size⟩]) (tbl ++ [.obj t cs]) ∧
    Step gs.length w Fz gs (w.alloc (.cells vs.toArray t)) Fz (gs ++ [⟨.pointer (some ⟨w.heap.size, 0, none⟩), some w.heap.size⟩]) :=
  rel.push (More.alloc _ _) _ _ _ (fun b hb => by obtain rfl := Option.some.inj hb; simp) ⟨w.heap.size, vs, rfl, rfl, heap_new _ _, hr.fix ((More.alloc _ _).fix rel) (ext_append _ _)⟩
theorem alloc_ok (rel : Rel C S w Fz gs tbl) {K : Ent → List Slot → Option R} {r : R} {t : TypeId} {z : Ent} (hz : zeroEnt P t = some z) (h : K (.one (.ptr tbl.length 0)) (tbl ++ [.obj t z.cells]) = some r) :
    Did P C S w Fz gs ((Instr.alloc t true (.tuple #[])).run P w) K r := by
  obtain ⟨i, v, _, _, rfl, hv⟩ := zero_run hz
  obtain ⟨h1, h2⟩ := rel.obj t (entOf_cells (C := C) (S := S) (w := w) (Fz := Fz) (gs := gs) v)
  refine ⟨.pointer (some ⟨w.heap.size, 0, none⟩), _, _, _, .one (.ptr tbl.length 0), _, ?_, h1, ptr_rep (last_at rel.len _) rfl, h2, h⟩
  simp [Instr.alloc, hv, newVar, newRow]
theorem box_ok (rel : Rel C S w Fz gs tbl) {K : Ent → List Slot → Option R} {r : R} {t : TypeId} {e : Ent} {v : Value} (hr : RepE C S w Fz gs e v) (hk : e.okc = true) (h : K (.one (.ptr tbl.length 0)) (tbl ++ [.obj t e.cells]) = some r) :
    Did P C S w Fz gs ((Instr.box t v).run P w) K r := by
  obtain ⟨h1, h2⟩ := rel.obj t (okc_cells hk hr).1
  refine ⟨.pointer (some ⟨w.heap.size, 0, none⟩), _, _, _, .one (.ptr tbl.length 0), _, ?_, h1, ptr_rep (last_at rel.len _) rfl, h2, h⟩
  simp [Instr.box, newVar, newRow]

/-! ### literals -/
theorem fold_splice (off : Nat) : ∀ (c : List Value) (k : Nat) (cells : Array Value), off + k + c.length ≤ cells.size →
    ((c.zipIdx k).foldl (fun (cs : Array Value) (p : Value × Nat) => cs.setIfInBounds (off + p.2) p.1) cells).toList = cells.toList.take (off + k) ++ c ++ cells.toList.drop (off + k + c.length)
  | [], k, cells, h => by simp
  | x :: c, k, cells, h => by
    simp only [List.zipIdx_cons, List.foldl_cons]
    rw [fold_splice off c (k + 1) _ (by simp at h ⊢; omega)]
    simp only [Array.toList_setIfInBounds, List.length_cons]
    have hl : off + k < cells.toList.length := by simp at h ⊢; omega
    have e1 : List.take (off + (k + 1)) (cells.toList.set (off + k) x) = cells.toList.take (off + k) ++ [x] := by
      rw [show off + (k + 1) = off + k + 1 by omega, List.take_add_one, List.take_set_of_le (Nat.le_refl _), List.getElem?_set_self hl]
      rfl
    have e2 : List.drop (off + (k + 1) + c.length) (cells.toList.set (off + k) x) = cells.toList.drop (off + k + (c.length + 1)) := by
      rw [show off + (k + 1) + c.length = off + k + (c.length + 1) by omega, List.drop_set_of_lt (by omega)]
    rw [e1, e2]
    simp
theorem fill_splice (off : Nat) (v : Value) (cells : Array Value) (h : off + v.cells.size ≤ cells.size) :
    (v.cells.zipIdx.foldl (fun cs (c, j) => cs.setIfInBounds (off + j) c) cells).toList = cells.toList.take off ++ v.cells.toList ++ cells.toList.drop (off + v.cells.size) := by
  have := fold_splice off v.cells.toList 0 cells (by simpa using h)
  simp only [Nat.add_zero, Array.length_toList] at this
  rw [← this, ← Array.foldl_toList, Array.toList_zipIdx]
theorem RepLs.splice {cs ns : List Lf} {vs ms : List Value} (h1 : RepLs C S w Fz gs cs vs) (h2 : RepLs C S w Fz gs ns ms) (off : Nat) : RepLs C S w Fz gs (cs.take off ++ ns ++ cs.drop (off + ns.length)) (vs.take off ++ ms ++ vs.drop (off + ms.length)) := by
  rw [h2.length]
  exact ((h1.take off).append h2).append (h1.drop _)
/-- Parts by their places, one by one. -/
def RepParts (C : Cfg) (S : Nat → Addr) (w : World) (Fz : Nat → Prop) (gs : List Gh) : List (Nat × Ent) → List (Nat × Value) → Prop
  | [], vs => vs = []
  | p :: r, vs => ∃ v vs', vs = v :: vs' ∧ p.1 = v.1 ∧ RepE C S w Fz gs p.2 v.2 ∧ RepParts C S w Fz gs r vs'
theorem fillE_ok {fs : Array Field} {places : List (Nat × Nat)} (hp : ∀ (i : Nat) (f : Field), fs[i]? = some f → ∀ n, sizeT P f.type = some n → places.toArray[i]? = some (f.offset, n)) :
    ∀ {parts : List (Nat × Ent)} {vs : List (Nat × Value)} {z cs : List Lf} {cells : Array Value}, RepParts C S w Fz gs parts vs → RepLs C S w Fz gs z cells.toList → fillE P fs parts z = some cs →
    ∃ cells' : Array Value, Instr.fill (places.toArray[·]?) cells vs = some cells' ∧ RepLs C S w Fz gs cs cells'.toList
  | [], vs, z, cs, cells, hr, hz, h => by
    obtain rfl := Option.some.inj h
    rw [show vs = [] from hr]
    exact ⟨cells, rfl, hz⟩
  | p :: parts, vs, z, cs, cells, ⟨v, vs', h1, h2, h3, h4⟩, hz, h => by
    simp only [fillE] at h
    split at h
    · rename_i f hf
      split at h
      · rename_i hs
        obtain ⟨hs1, hs2⟩ := hs
        obtain ⟨k1, k2, k3⟩ := okc_cells hs2 h3
        split at h
        · rename_i cs1 hw
          unfold writeCells at hw
          split at hw
          · rename_i hle
            obtain rfl := Option.some.inj hw
            have hl := hz.length
            rw [Array.length_toList] at hl
            have hsp := fill_splice f.offset v.2 cells (by rw [k3]; omega)
            have hz' := hz.splice k1 f.offset
            rw [show v.2.cells.toList.length = v.2.cells.size from Array.length_toList, ← hsp] at hz'
            obtain ⟨cells', q1, q2⟩ := fillE_ok hp h4 hz' h
            refine ⟨cells', ?_, q2⟩
            rw [h1]
            unfold Instr.fill
            have hpl := hp p.1 f hf _ hs1
            rw [h2] at hpl
            rw [hpl]
            refine (if_neg ?_).trans q1
            simp [k3]; omega
          · cases hw
        · cases h
      · cases h
    · cases h
theorem mapM_some {α β : Type} (f : α → Option β) : ∀ (l : List α), (∀ a ∈ l, (f a).isSome = true) → ∃ r, l.mapM f = some r ∧ ∀ (i : Nat) (a : α), l[i]? = some a → ∃ b, f a = some b ∧ r[i]? = some b
  | [], _ => ⟨[], rfl, fun i a h => by simp at h⟩
  | a :: l, h => by
    obtain ⟨b, hb⟩ := Option.isSome_iff_exists.1 (h a (by simp))
    obtain ⟨r, h1, h2⟩ := mapM_some f l (fun x hx => h x (by simp [hx]))
    refine ⟨b :: r, by simp [List.mapM_cons, hb, h1], fun i x hi => ?_⟩
    cases i with
    | zero => simp at hi; subst hi; exact ⟨b, hb, rfl⟩
    | succ i => simpa using h2 i x (by simpa using hi)
theorem build_ok (rel : Rel C S w Fz gs tbl) {K : Ent → Option R} {r : R} {t : TypeId} {parts : List (Nat × Ent)} {vs : Array (Nat × Value)} (hr : RepParts C S w Fz gs parts vs.toList) (h : buildE P t parts K = some r) :
    ∃ v e, (Instr.build t vs).run P w = .ok v w ∧ RepE C S w Fz gs e v ∧ K e = some r := by
  unfold buildE at h
  split at h
  · rename_i z fs hz hu
    split at h
    · rename_i hall
      split at h
      · rename_i cs hf
        obtain ⟨i, v, hi, hz0, hzv, _⟩ := zero_run hz
        have hzc : RepLs C S w Fz gs z v.cells.toList := by
          have := entOf_cells (C := C) (S := S) (w := w) (Fz := Fz) (gs := gs) v
          rw [← hzv] at this
          exact this
        obtain ⟨places, hp1, hp2⟩ := mapM_some (fun f : Field => (P.info? f.type).map fun i => (f.offset, i.size)) fs.toList (fun f hf => by
          have := List.all_eq_true.1 hall f hf
          simpa using this)
        obtain ⟨cells', q1, q2⟩ := fillE_ok (places := places) (fun i f hf n hn => by
          obtain ⟨b, hb1, hb2⟩ := hp2 i f (by simpa using hf)
          unfold sizeT at hn
          cases hq : P.info? f.type with
          | none => rw [hq] at hn; cases hn
          | some j =>
            rw [hq] at hn hb1
            simp only [Option.map_some, Option.some.injEq] at hn hb1
            subst hn; subst hb1
            simpa using hb2) hr hzc hf
        refine ⟨.agg cells', .agg cs, ?_, ⟨cells'.toList, by simp, q2⟩, h⟩
        refine run_build w t vs cells' ?_
        unfold Program.built
        simp only [hi, hu, hz0, hp1]
        exact q1
      · cases h
    · cases h
  · cases h
theorem fill_dense (sz : Nat) : ∀ (vs : List (Nat × Value)) (k : Nat) (cells : Array Value), cells.size = (k + vs.length) * sz → (∀ v ∈ vs, v.2.cells.size = sz) → vs.map (·.1) = List.range' k vs.length →
    ∃ c : Array Value, Instr.fill (fun i => some (i * sz, sz)) cells vs = some c ∧ c.toList = cells.toList.take (k * sz) ++ (vs.map (·.2.cells.toList)).flatten
  | [], k, cells, hs, _, _ => ⟨cells, rfl, by simp at hs; rw [List.take_of_length_le (by simp [hs])]; simp⟩
  | v :: vs, k, cells, hs, hc, hk => by
    simp only [List.map_cons, List.length_cons, List.range'_succ, List.cons.injEq] at hk
    have h1 := hc v (by simp)
    have hsz : k * sz + sz + vs.length * sz = cells.size := by
      rw [hs, List.length_cons, Nat.add_mul, Nat.add_mul]
      omega
    have hsp := fill_splice (k * sz) v.2 cells (by rw [h1]; omega)
    obtain ⟨c, q1, q2⟩ := fill_dense sz vs (k + 1) (v.2.cells.zipIdx.foldl (fun cs (c, j) => cs.setIfInBounds (k * sz + j) c) cells) (by
      rw [← Array.length_toList, hsp]
      simp only [List.length_append, List.length_take, List.length_drop, Array.length_toList, h1]
      rw [Nat.add_mul, Nat.add_mul]
      omega) (fun v hv => hc v (by simp [hv])) hk.2
    refine ⟨c, ?_, ?_⟩
    · unfold Instr.fill
      rw [hk.1]
      refine (if_neg ?_).trans q1
      simp [h1]; omega
    · rw [q2, hsp, List.map_cons, List.flatten_cons, ← List.append_assoc]
      congr 1
      have hl : (cells.toList.take (k * sz) ++ v.2.cells.toList).length = (k + 1) * sz := by
        simp only [List.length_append, List.length_take, Array.length_toList, h1]
        rw [Nat.add_mul]
        omega
      rw [← hl, List.take_left]
theorem RepParts.lss : ∀ {parts : List (Nat × Ent)} {vs : List (Nat × Value)} {sz : Nat}, RepParts C S w Fz gs parts vs → parts.all (fun p => p.2.cells.length == sz && p.2.okc) = true →
    RepLss C S w Fz gs (parts.map (·.2.cells)) (vs.map (·.2.cells.toList)) ∧ (∀ v ∈ vs, v.2.cells.size = sz) ∧ vs.map (·.1) = parts.map (·.1) ∧ vs.length = parts.length ∧ ∀ u ∈ (vs.map (·.2.cells.toList)).flatten, u.oneCell' = true
  | [], vs, sz, r, _ => by rw [show vs = [] from r]; exact ⟨rfl, by simp, rfl, rfl, by simp⟩
  | p :: parts, vs, sz, ⟨v, vs', h1, h2, h3, h4⟩, h => by
    simp only [List.all_cons, Bool.and_eq_true, beq_iff_eq] at h
    obtain ⟨q1, q2, q3, q4, q5⟩ := RepParts.lss h4 h.2
    obtain ⟨k1, k2, k3⟩ := okc_cells h.1.2 h3
    subst h1
    refine ⟨⟨_, _, rfl, k1, q1⟩, fun x hx => ?_, by simp [q3, h2], by simp [q4], fun u hu => ?_⟩
    · rcases List.mem_cons.1 hx with rfl | hx
      · rw [k3]; exact h.1.1
      · exact q2 x hx
    · simp only [List.map_cons, List.flatten_cons, List.mem_append] at hu
      exact hu.elim (k2 u) (q5 u)
theorem elemT_und {t e : TypeId} (h : elemT P t = some e) : P.underlying t = some (.slice e) := by
  unfold elemT at h
  split at h
  · rename_i hu; obtain rfl := Option.some.inj h; exact hu
  · cases h
theorem sizeT_info {t : TypeId} {n : Nat} (h : sizeT P t = some n) : ∃ i, P.info? t = some i ∧ i.size = n := by
  unfold sizeT at h
  cases hi : P.info? t with
  | none => rw [hi] at h; cases h
  | some i => rw [hi] at h; exact ⟨i, rfl, Option.some.inj h⟩
/-- One's own slice in a new block. -/
theorem Rel.newArr (rel : Rel C S w Fz gs tbl) {w' : World} (hm : More w w') (e : TypeId) (t : Ty) (l : List t.T) {cap : Nat} {cur : Array Value} {xs : List Value} (hr : Reps (RepT C S w Fz t) l xs) (hc : l.length ≤ cap) (hcm : cap ≤ maxLen)
    (hb : w'.heap[w.heap.size]? = some (.cells cur e (0, 0))) (hs : cap * t.size ≤ cur.size) (hx : cur.toList.take (l.length * t.size) = xs) :
    Rel C S w' Fz (gs ++ [⟨.slice (some ⟨w.heap.size, 0, none⟩) l.length cap, some w.heap.size⟩]) (tbl ++ [.arr e t l]) ∧ Step gs.length w Fz gs w' Fz (gs ++ [⟨.slice (some ⟨w.heap.size, 0, none⟩) l.length cap, some w.heap.size⟩]) :=
  rel.push hm _ _ _ (fun b hb' => by obtain rfl := Option.some.inj hb'; exact ⟨Nat.le_refl _, (Array.getElem?_eq_some_iff.1 hb).1⟩)
    ⟨_, cap, xs, rfl, hc, hcm, Reps.imp (fun _ _ q => q.fix (hm.fix rel)) hr, .inr ⟨w.heap.size, 0, cur, rfl, rfl, hb, by simpa using hs, by simpa using hx⟩⟩
theorem ext_le {gs g1 : List Gh} (x1 : Ext gs g1) : gs.length ≤ g1.length := by
  rcases Nat.lt_or_ge g1.length gs.length with hlt | hge
  · obtain ⟨g', hg', _⟩ := x1 g1.length gs[g1.length] (List.getElem?_eq_getElem hlt)
    rw [List.getElem?_eq_none (Nat.le_refl _)] at hg'
    cases hg'
  · exact hge
theorem buildSlice_ok (rel : Rel C S w Fz gs tbl) {K : Ent → List Slot → Option R} {r : R} {t : TypeId} {len : Nat} {parts : List (Nat × Ent)} {vs : Array (Nat × Value)} (hr : RepParts C S w Fz gs parts vs.toList) (h : buildSliceE P C t len parts tbl K = some r) :
    Did P C S w Fz gs ((Instr.buildSlice t len vs).run P w) K r := by
  unfold buildSliceE at h
  split at h
  · rename_i e he
    split at h
    · rename_i sz z hsz hz
      split at h
      · rename_i hc
        obtain ⟨c1, c2, c3, c4⟩ := hc
        obtain ⟨i, zv, hi, hz0, _, _⟩ := zero_run hz
        obtain ⟨i', hi', hsz'⟩ := sizeT_info hsz
        obtain rfl : i = i' := Option.some.inj (hi.symm.trans hi')
        obtain ⟨q1, q2, q3, q4, q5⟩ := hr.lss c4
        have hlen : parts.length = len := by have := congrArg List.length c3; simpa using this
        rw [c3] at q3
        have hrun : ∃ c : Array Value, (Instr.buildSlice t len vs).run P w = .ok (.slice (some ⟨w.heap.size, 0, none⟩) len len) (w.alloc (.cells c e)) ∧ c.toList = (vs.toList.map (·.2.cells.toList)).flatten := by
          by_cases h0 : len * i.size = 0
          · have hl0 : len = 0 := by rw [hsz'] at h0; rcases Nat.mul_eq_zero.1 h0 with h0 | h0 <;> omega
            have hv0 : vs.toList = [] := List.eq_nil_of_length_eq_zero (by omega)
            refine ⟨#[], ?_, by simp [hv0]⟩
            simp [Instr.buildSlice, run_underlying (elemT_und he), sizeOf, typeInfo, hi, hl0, hv0, Instr.fill, newRow, Array.range_zero']
          · obtain ⟨c, f1, f2⟩ := fill_dense sz vs.toList 0 ((Array.range (len * i.size)).map (zv.cells[· % zv.cells.size]!)) (by simp [hsz', q4, hlen]) q2 (by rw [q3, q4, hlen, List.range_eq_range'])
            refine ⟨c, run_buildSlice w t e len vs c i zv (elemT_und he) hi hz0 (by rw [hsz']; omega) h0 (by rw [hsz'] at f1 ⊢; exact f1), by simpa using f2⟩
        obtain ⟨c, hrun, hcl⟩ := hrun
        have hc' : c = (vs.toList.map (·.2.cells.toList)).flatten.toArray := by rw [← hcl]
        split at h
        · rename_i ty hty
          split at h
          · rename_i l s2 him
            split at h
            · rename_i htz
              obtain ⟨F1, g1, r1, s1, x1, e1, e2⟩ := implodes_ok gs.length rel q1 him
              have hll : l.length = len := by rw [e2]; simpa using hlen
              obtain ⟨r2, s2'⟩ := r1.newArr (More.alloc w (.cells c e)) e ty l (cap := len) (cur := c) e1 (by omega) (by simp only [maxLen]; have := Nat.le_mul_of_pos_right len c2; omega) (heap_new _ _) (by
                rw [← Array.length_toList, hcl, Reps.length (fun _ _ q => RepT.size q) e1, hll]
                exact Nat.le_refl _) (by
                rw [hcl, List.take_of_length_le (Nat.le_of_eq (Reps.length (fun _ _ q => RepT.size q) e1))])
              rw [hll] at r2 s2'
              have hgl := ext_le x1
              exact ⟨_, _, F1, _, .one (.arr s2.length), _, hrun, r2, arr_rep (last_at r1.len _) rfl, s1.trans (s2'.le hgl), h⟩
            · cases h
          · cases h
        · obtain ⟨r2, s2⟩ := rel.obj e q1.flatten
          rw [← hc'] at r2 s2
          exact ⟨_, _, Fz, _, .one (.rowv tbl.length len), _, hrun, r2, rowv_rep (last_at rel.len _) rfl, s2, h⟩
      · cases h
    · cases h
  · cases h
end
end Go.Proofs.YtnajjhjbkanigaaDoor.Cm
