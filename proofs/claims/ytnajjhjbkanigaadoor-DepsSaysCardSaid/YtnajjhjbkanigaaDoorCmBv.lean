/- Code as plain functions: rows of plain data, sealed at once. By this session. -/
import Derived.Test.YtnajjhjbkanigaaDoorCmR
namespace Go.Proofs.YtnajjhjbkanigaaDoor.Cm
open Go
set_option linter.unusedVariables false
set_option linter.unusedSimpArgs false
section
variable {P : Program} {C : Cfg} {S : Nat → Addr}
theorem unfl_rep {w : World} {Fz : Nat → Prop} {gs : List Gh} {b : Bool} {e : Ent} {v : Value} (h : RepE C S w Fz gs e v) : RepE C S w Fz gs (unfl b e) v := by
  unfold unfl
  split
  · obtain ⟨a, cap, xs, h1, h2, h3, h4, _⟩ := h
    exact ⟨a, cap, xs, h1, h2, h3, h4⟩
  · exact h
theorem asT0_nil {t : Ty} {l : Lf} {x : t.T} {s' : List Slot} (h : asT0 t l [] = some (x, s')) (s : List Slot) : asT0 t l s = some (x, s) := by
  unfold asT0 at h ⊢
  split at h
  · split at h
    · rename_i hk; obtain ⟨rfl, -⟩ := Prod.mk.inj (Option.some.inj h); simp only [dif_pos hk]
    · cases h
  · obtain ⟨rfl, -⟩ := Prod.mk.inj (Option.some.inj h); rfl
  · split at h
    · rename_i hj; simp at hj
    · rename_i hj; simp at hj
    · cases h
  · obtain ⟨rfl, -⟩ := Prod.mk.inj (Option.some.inj h); rfl
  · split at h
    · rename_i hj; simp at hj
    · rename_i hj; simp at hj
    · cases h
  · obtain ⟨rfl, -⟩ := Prod.mk.inj (Option.some.inj h); rfl
  · cases h
theorem asT_nil {t : Ty} {l : Lf} {x : t.T} {s' : List Slot} (h : asT t l [] = some (x, s')) (s : List Slot) : asT t l s = some (x, s) := by
  cases t with
  | exs e =>
    simp only [asT] at h ⊢
    split at h
    · rename_i y s2 h2
      obtain ⟨rfl, rfl⟩ := Prod.mk.inj (Option.some.inj h)
      rw [asT0_nil h2 s]
    · cases h
  | _ => exact asT0_nil h s
theorem asT_nil2 {t : Ty} {l : Lf} {x : t.T} {s' : List Slot} (h : asT t l [] = some (x, s')) : s' = [] := by
  have := asT_nil h []
  rw [h] at this
  exact (Prod.mk.inj (Option.some.inj this)).2
theorem implode_nil : ∀ {t : Ty} {cs cs' : List Lf} {x : t.T} {s' : List Slot}, implode t cs [] = some (x, cs', s') → s' = [] ∧ ∀ s, implode t cs s = some (x, cs', s)
  | .unit, cs, cs', x, s', h => by simp only [implode, Option.some.injEq, Prod.mk.injEq] at h ⊢; exact ⟨h.2.2.symm, fun s => ⟨h.1, h.2.1, trivial⟩⟩
  | .pair a b, cs, cs', x, s', h => by
    simp only [implode] at h ⊢
    split at h
    · rename_i x1 c1 s1 h1
      obtain ⟨rfl, k1⟩ := implode_nil h1
      split at h
      · rename_i x2 c2 s2 h2
        obtain ⟨rfl, k2⟩ := implode_nil h2
        simp only [Option.some.injEq, Prod.mk.injEq] at h
        obtain ⟨rfl, rfl, rfl⟩ := h
        exact ⟨rfl, fun s => by rw [k1]; simp only; rw [k2]⟩
      · cases h
    · cases h
  | .int k, [], cs', x, s', h => by simp [implode] at h
  | .bool, [], cs', x, s', h => by simp [implode] at h
  | .str, [], cs', x, s', h => by simp [implode] at h
  | .err, [], cs', x, s', h => by simp [implode] at h
  | .atp, [], cs', x, s', h => by simp [implode] at h
  | .slice e t, [], cs', x, s', h => by simp [implode] at h
  | .fl e t, [], cs', x, s', h => by simp [implode] at h
  | .exs e, [], cs', x, s', h => by simp [implode] at h
  | .int k, c :: cs, cs', x, s', h => by
    simp only [implode] at h ⊢
    split at h
    · rename_i h1; simp only [Option.some.injEq, Prod.mk.injEq] at h; obtain ⟨rfl, rfl, rfl⟩ := h; exact ⟨asT_nil2 h1, fun s => by rw [asT_nil h1 s]⟩
    · cases h
  | .bool, c :: cs, cs', x, s', h => by
    simp only [implode] at h ⊢
    split at h
    · rename_i h1; simp only [Option.some.injEq, Prod.mk.injEq] at h; obtain ⟨rfl, rfl, rfl⟩ := h; exact ⟨asT_nil2 h1, fun s => by rw [asT_nil h1 s]⟩
    · cases h
  | .str, c :: cs, cs', x, s', h => by
    simp only [implode] at h ⊢
    split at h
    · rename_i h1; simp only [Option.some.injEq, Prod.mk.injEq] at h; obtain ⟨rfl, rfl, rfl⟩ := h; exact ⟨asT_nil2 h1, fun s => by rw [asT_nil h1 s]⟩
    · cases h
  | .err, c :: cs, cs', x, s', h => by
    simp only [implode] at h ⊢
    split at h
    · rename_i h1; simp only [Option.some.injEq, Prod.mk.injEq] at h; obtain ⟨rfl, rfl, rfl⟩ := h; exact ⟨asT_nil2 h1, fun s => by rw [asT_nil h1 s]⟩
    · cases h
  | .atp, c :: cs, cs', x, s', h => by
    simp only [implode] at h ⊢
    split at h
    · rename_i h1; simp only [Option.some.injEq, Prod.mk.injEq] at h; obtain ⟨rfl, rfl, rfl⟩ := h; exact ⟨asT_nil2 h1, fun s => by rw [asT_nil h1 s]⟩
    · cases h
  | .slice e t, c :: cs, cs', x, s', h => by
    simp only [implode] at h ⊢
    split at h
    · rename_i h1; simp only [Option.some.injEq, Prod.mk.injEq] at h; obtain ⟨rfl, rfl, rfl⟩ := h; exact ⟨asT_nil2 h1, fun s => by rw [asT_nil h1 s]⟩
    · cases h
  | .fl e t, c :: cs, cs', x, s', h => by
    simp only [implode] at h ⊢
    split at h
    · rename_i h1; simp only [Option.some.injEq, Prod.mk.injEq] at h; obtain ⟨rfl, rfl, rfl⟩ := h; exact ⟨asT_nil2 h1, fun s => by rw [asT_nil h1 s]⟩
    · cases h
  | .exs e, c :: cs, cs', x, s', h => by
    simp only [implode] at h ⊢
    split at h
    · rename_i h1; simp only [Option.some.injEq, Prod.mk.injEq] at h; obtain ⟨rfl, rfl, rfl⟩ := h; exact ⟨asT_nil2 h1, fun s => by rw [asT_nil h1 s]⟩
    · cases h
theorem implode1_nil {t : Ty} {cs : List Lf} {x : t.T} {s' : List Slot} (h : implode1 t cs [] = some (x, s')) : s' = [] ∧ ∀ s, implode1 t cs s = some (x, s) := by
  unfold implode1 at h ⊢
  split at h
  · rename_i h1
    obtain ⟨rfl, k⟩ := implode_nil h1
    simp only [Option.some.injEq, Prod.mk.injEq] at h
    obtain ⟨rfl, rfl⟩ := h
    exact ⟨rfl, fun s => by rw [k]⟩
  · cases h
theorem implodes_nil {t : Ty} : ∀ {l : List (List Lf)} {x : List t.T} {s' : List Slot}, implodes t l [] = some (x, s') → s' = [] ∧ ∀ s, implodes t l s = some (x, s)
  | [], x, s', h => by simp only [implodes, Option.some.injEq, Prod.mk.injEq] at h ⊢; exact ⟨h.2.symm, fun s => ⟨h.1, trivial⟩⟩
  | c :: r, x, s', h => by
    simp only [implodes] at h ⊢
    split at h
    · rename_i x1 s1 h1
      obtain ⟨rfl, k1⟩ := implode1_nil h1
      split at h
      · rename_i h2
        obtain ⟨rfl, k2⟩ := implodes_nil h2
        simp only [Option.some.injEq, Prod.mk.injEq] at h
        obtain ⟨rfl, rfl⟩ := h
        exact ⟨rfl, fun s => by rw [k1]; simp only; rw [k2]⟩
      · cases h
    · cases h
theorem Rel.shutUp {w : World} {Fz : Nat → Prop} {gs : List Gh} {tbl : List Slot} (r : Rel C S w Fz gs tbl) {b : Nat} (hb : b < w.heap.size) (hn : ∀ (i : Nat) (g : Gh), gs[i]? = some g → g.own ≠ some b) : Rel C S w (fun q => Fz q ∨ q = b) gs tbl :=
  r.gen ⟨fun _ h => .inl h, fun _ _ => rfl⟩ (fun i g h => ⟨g, h, rfl⟩) r.len (fun i s g h1 h2 => .inl ⟨h1, h2, fun _ _ => rfl⟩) r.apart
    (fun i g q hg ho => ⟨(r.own i g q hg ho).1, fun h => h.elim (r.own i g q hg ho).2 (fun e => hn i g hg (e ▸ ho))⟩) (fun q h => h.elim (r.fz q) (fun e => e ▸ hb))
theorem buildVal_ok {R : Type} {w : World} {Fz : Nat → Prop} {gs : List Gh} {tbl : List Slot} (rel : Rel C S w Fz gs tbl) {K : Ent → List Slot → Option R} {r : R} {t : TypeId} {len : Nat} {parts : List (Nat × Ent)} {vs : Array (Nat × Value)} (hr : RepParts C S w Fz gs parts vs.toList) (h : buildValE P C t len parts (fun e => K e tbl) = some r) :
    Did P C S w Fz gs ((Instr.buildSlice t len vs).run P w) K r := by
  unfold buildValE at h
  split at h
  · rename_i e he
    split at h
    · rename_i sz z hsz hz
      split at h
      · rename_i hc
        obtain ⟨c1, c2, c3, c4⟩ := hc
        obtain ⟨i, zv, hi, hz0, _, _⟩ := zero_run hz
        obtain ⟨i', hi', hsz'⟩ := sizeT_info hsz
        obtain rfl : i = i' := Option.some.inj (hi.symm.trans hi')
        obtain ⟨q1, q2, q3, q4, q5⟩ := hr.lss c4
        have hlen : parts.length = len := by have := congrArg List.length c3; simpa using this
        rw [c3] at q3
        have hrun : ∃ c : Array Value, (Instr.buildSlice t len vs).run P w = .ok (.slice (some ⟨w.heap.size, 0, none⟩) len len) (w.alloc (.cells c e)) ∧ c.toList = (vs.toList.map (·.2.cells.toList)).flatten := by
          by_cases h0 : len * i.size = 0
          · have hl0 : len = 0 := by rw [hsz'] at h0; rcases Nat.mul_eq_zero.1 h0 with h0 | h0 <;> omega
            have hv0 : vs.toList = [] := List.eq_nil_of_length_eq_zero (by omega)
            refine ⟨#[], ?_, by simp [hv0]⟩
            simp [Instr.buildSlice, run_underlying (elemT_und he), sizeOf, typeInfo, hi, hl0, hv0, Instr.fill, newRow, Array.range_zero']
          · obtain ⟨c, f1, f2⟩ := fill_dense sz vs.toList 0 ((Array.range (len * i.size)).map (zv.cells[· % zv.cells.size]!)) (by simp [hsz', q4, hlen]) q2 (by rw [q3, q4, hlen, List.range_eq_range'])
            refine ⟨c, run_buildSlice w t e len vs c i zv (elemT_und he) hi hz0 (by rw [hsz']; omega) h0 (by rw [hsz'] at f1 ⊢; exact f1), by simpa using f2⟩
        obtain ⟨c, hrun, hcl⟩ := hrun
        split at h
        · rename_i ty hty
          split at h
          · rename_i l s2 him
            split at h
            · rename_i htz
              obtain ⟨F1, g1, r1, s1, x1, e1, e2⟩ := implodes_ok gs.length rel q1 ((implodes_nil him).2 tbl)
              have hll : l.length = len := by rw [e2]; simpa using hlen
              have hm := More.alloc w (.cells c e)
              obtain ⟨r2, s2'⟩ := r1.more hm g1.length
              have r3 := r2.shutUp (b := w.heap.size) (by simp) (fun i g hg ho => by have := (r1.own i g _ hg ho).1; omega)
              have hgl := ext_le x1
              have s3 : Step g1.length w F1 g1 (w.alloc (.cells c e)) (fun q => F1 q ∨ q = w.heap.size) g1 :=
                { s2' with fz := fun _ h => .inl h, fznew := fun b h => h.elim .inl (fun e => .inr (.inl (by omega))) }
              by_cases h0 : len = 0
              · rw [if_pos h0] at h
                subst h0
                exact ⟨_, _, _, g1, .one (.emp false), tbl, hrun, r3, ⟨_, rfl, fun e => by cases e⟩, s1.trans (s3.le hgl), h⟩
              rw [if_neg h0] at h
              refine ⟨_, _, _, g1, .one (.val (.slice e ty) l), tbl, hrun, r3, ?_, s1.trans (s3.le hgl), h⟩
              refine ⟨some ⟨w.heap.size, 0, none⟩, len, _, by rw [hll], by rw [hll]; exact Nat.le_refl _, Reps.imp (fun _ _ q => RepT.fix (w := w.alloc (.cells c e)) (Fz := F1) ⟨fun _ h => .inl h, fun _ _ => rfl⟩ (RepT.fix (hm.fix r1) q)) e1, .inr ⟨⟨w.heap.size, 0, none⟩, rfl, rfl, .inr rfl, fun j u hj => ?_⟩⟩
              rw [Addr.add_lit, World.cell?, heap_new]
              rw [← hcl] at hj
              simpa using hj
            · cases h
          · cases h
        · cases h
      · cases h
    · cases h
  · cases h
theorem buildFl_ok {R : Type} {w : World} {Fz : Nat → Prop} {gs : List Gh} {tbl : List Slot} (rel : Rel C S w Fz gs tbl) {K : Ent → List Slot → Option R} {r : R} {t : TypeId} {len : Nat} {parts : List (Nat × Ent)} {vs : Array (Nat × Value)} (hr : RepParts C S w Fz gs parts vs.toList) (h : buildFlE P C t len parts (fun e => K e tbl) = some r) :
    Did P C S w Fz gs ((Instr.buildSlice t len vs).run P w) K r := by
  unfold buildFlE at h
  split at h
  · rename_i e he
    split at h
    · rename_i sz z hsz hz
      split at h
      · rename_i hc
        obtain ⟨c1, c2, c3, c4⟩ := hc
        obtain ⟨i, zv, hi, hz0, _, _⟩ := zero_run hz
        obtain ⟨i', hi', hsz'⟩ := sizeT_info hsz
        obtain rfl : i = i' := Option.some.inj (hi.symm.trans hi')
        obtain ⟨q1, q2, q3, q4, q5⟩ := hr.lss c4
        have hlen : parts.length = len := by have := congrArg List.length c3; simpa using this
        rw [c3] at q3
        have hrun : ∃ c : Array Value, (Instr.buildSlice t len vs).run P w = .ok (.slice (some ⟨w.heap.size, 0, none⟩) len len) (w.alloc (.cells c e)) ∧ c.toList = (vs.toList.map (·.2.cells.toList)).flatten := by
          by_cases h0 : len * i.size = 0
          · have hl0 : len = 0 := by rw [hsz'] at h0; rcases Nat.mul_eq_zero.1 h0 with h0 | h0 <;> omega
            have hv0 : vs.toList = [] := List.eq_nil_of_length_eq_zero (by omega)
            refine ⟨#[], ?_, by simp [hv0]⟩
            simp [Instr.buildSlice, run_underlying (elemT_und he), sizeOf, typeInfo, hi, hl0, hv0, Instr.fill, newRow, Array.range_zero']
          · obtain ⟨c, f1, f2⟩ := fill_dense sz vs.toList 0 ((Array.range (len * i.size)).map (zv.cells[· % zv.cells.size]!)) (by simp [hsz', q4, hlen]) q2 (by rw [q3, q4, hlen, List.range_eq_range'])
            refine ⟨c, run_buildSlice w t e len vs c i zv (elemT_und he) hi hz0 (by rw [hsz']; omega) h0 (by rw [hsz'] at f1 ⊢; exact f1), by simpa using f2⟩
        obtain ⟨c, hrun, hcl⟩ := hrun
        split at h
        · rename_i ty hty
          split at h
          · rename_i l s2 him
            split at h
            · rename_i htz
              obtain ⟨F1, g1, r1, s1, x1, e1, e2⟩ := implodes_ok gs.length rel q1 ((implodes_nil him).2 tbl)
              have hll : l.length = len := by rw [e2]; simpa using hlen
              have hm := More.alloc w (.cells c e)
              obtain ⟨r2, s2'⟩ := r1.more hm g1.length
              have r3 := r2.shutUp (b := w.heap.size) (by simp) (fun i g hg ho => by have := (r1.own i g _ hg ho).1; omega)
              have hgl := ext_le x1
              have s3 : Step g1.length w F1 g1 (w.alloc (.cells c e)) (fun q => F1 q ∨ q = w.heap.size) g1 :=
                { s2' with fz := fun _ h => .inl h, fznew := fun b h => h.elim .inl (fun e => .inr (.inl (by omega))) }
              refine ⟨_, _, _, g1, .one (.val (.fl e ty) ((true, l) : Bool × List ty.T)), tbl, hrun, r3, ?_, s1.trans (s3.le hgl), h⟩
              refine ⟨some ⟨w.heap.size, 0, none⟩, len, _, by rw [hll], by rw [hll]; exact Nat.le_refl _, Reps.imp (fun _ _ q => RepT.fix (w := w.alloc (.cells c e)) (Fz := F1) ⟨fun _ h => .inl h, fun _ _ => rfl⟩ (RepT.fix (hm.fix r1) q)) e1, .inr ⟨⟨w.heap.size, 0, none⟩, rfl, rfl, .inr rfl, fun j u hj => ?_⟩, fun _ => by show len = l.length; rw [hll]⟩
              rw [Addr.add_lit, World.cell?, heap_new]
              rw [← hcl] at hj
              simpa using hj
            · cases h
          · cases h
        · cases h
      · cases h
    · cases h
  · cases h
end
end Go.Proofs.YtnajjhjbkanigaaDoor.Cm
