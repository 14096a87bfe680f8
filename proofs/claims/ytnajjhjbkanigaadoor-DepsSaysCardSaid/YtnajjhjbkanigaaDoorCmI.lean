/- Code as plain functions: append, made slices and maps, stores, parts of slices. By this session. -/
import Derived.Test.YtnajjhjbkanigaaDoorCmH
namespace Go.Proofs.YtnajjhjbkanigaaDoor.Cm
open Go
set_option linter.unusedVariables false
set_option linter.unusedSimpArgs false
section
variable {P : Program} {C : Cfg} {S : Nat → Addr} {w : World} {Fz : Nat → Prop} {gs : List Gh} {tbl : List Slot} {R : Type}
theorem bytesT_info {t : TypeId} {n : Nat} (h : bytesT P t = some n) : ∃ i, P.info? t = some i ∧ i.bytes = n := by
  unfold bytesT at h
  cases hi : P.info? t with
  | none => rw [hi] at h; cases h
  | some i => rw [hi] at h; exact ⟨i, rfl, Option.some.inj h⟩
theorem zero_size {e : Ent} {v : Value} (h : e = entOf v) : v.cells.size = e.cells.length := by
  subst h
  have := (entOf_cells (C := ⟨0, 0, 0, [], [], [], [], []⟩) (S := fun _ => default) (w := default) (Fz := fun _ => False) (gs := []) v).length
  rw [← this, Array.length_toList]
theorem append_ok (rel : Rel C S w Fz gs tbl) {K : Ent → List Slot → Option R} {r : R} {t u ty : TypeId} {a b : Ent} {A B : Value} (hA : RepE C S w Fz gs a A) (hB : RepE C S w Fz gs b B) (h : appendE P C t u a b tbl K = some r) :
    Did P C S w Fz gs ((Builtin.append_ #[t, u] ty #[A, B]).run P w) K r := by
  unfold appendE at h
  split at h
  · rename_i e d x y he hu
    split at h
    · rename_i sz by_ z k hsz hby hz hk
      split at h
      · rename_i hc
        obtain ⟨c1, c2, c3, c4, c5⟩ := hc
        split at h
        · rename_i l l' hl hl'
          split at h
          · rename_i hfit
            split at h
            · cases h
            rename_i hfb
            obtain ⟨i, zv, hi, hz0, hzv, _⟩ := zero_run hz
            obtain ⟨i1, hi1, hs1⟩ := sizeT_info hsz
            obtain ⟨i2, hi2, hs2⟩ := bytesT_info hby
            obtain rfl : i = i1 := Option.some.inj (hi.symm.trans hi1)
            obtain rfl : i = i2 := Option.some.inj (hi.symm.trans hi2)
            have hA : RepL C S w Fz gs x A := hA
            have hB : RepL C S w Fz gs y B := hB
            have hsrc : Src P C S w Fz k B l' := src_ok rel hB hl'
            have hzs : zv.cells.size = k.size := by rw [zero_size hzv, c4, c1]
            cases x with
            | arr j =>
              obtain ⟨g, a0, n0, cap0, hg, hv, rfl⟩ := hA
              simp only [baseT] at hk
              split at hk
              · rename_i e' t' l0 hj
                split at hk
                · rename_i hee
                  subst hee
                  obtain rfl := Option.some.inj hk
                  simp only [listOf, hj, dite_true] at hl
                  obtain rfl := Option.some.inj hl
                  obtain ⟨a1, cap, xs, q1, q2, q3, q4, q5⟩ := rel.slot j _ g hj hg
                  rw [hv] at q1
                  obtain ⟨rfl, rfl, rfl⟩ := Value.slice.inj q1
                  obtain ⟨a', cap', w', ys, own', f1, f2, f3, f4, f5, f6, f7, f8, f9, f10, f11⟩ := append_core (ty := ty) rel (elemT_und he) hu c5 hi hz0 (hs1.trans c1.symm) hzs (by omega) (by omega) q2 q3 q4 q5 hsrc (by rw [hs2]; exact hfit)
                  have fx : Fix w Fz w' Fz := ⟨fun _ h => h, fun q hq => f8 q (rel.fz q hq) (fun e => (rel.own j g q hg e).2 hq)⟩
                  obtain ⟨r1, s1⟩ := rel.app gs.length hg (.arr e' t' (l0 ++ l')) ⟨.slice a' (l0 ++ l').length cap', own'⟩ f4 f5 f6 f7 f8 f10 ⟨a', cap', ys, rfl, f2, f3, Reps.imp (fun _ _ q => q.fix fx) f9, f11⟩
                  refine ⟨_, w', Fz, _, .one (.arr tbl.length), _, f1, r1, arr_rep (g := ⟨.slice a' (l0 ++ l').length cap', own'⟩) ?_ rfl, s1, h⟩
                  have : (gs.set j ⟨g.v, none⟩).length = tbl.length := by rw [List.length_set, rel.len]
                  exact last_at this _
                · cases hk
              · cases hk
            | emp q =>
              obtain ⟨a0, rfl, _⟩ := hA
              simp only [listOf] at hl
              obtain rfl := Option.some.inj hl
              obtain ⟨a', cap', w', ys, own', f1, f2, f3, f4, f5, f6, f7, f8, f9, f10, f11⟩ := append_core (ty := ty) (l := ([] : List k.T)) (a := a0) (cap := 0) (xs := []) (own := none) rel (elemT_und he) hu c5 hi hz0 (hs1.trans c1.symm) hzs (by omega) (by omega) (Nat.le_refl _) (by simp [maxLen]) rfl (.inl ⟨rfl, rfl, rfl⟩) hsrc (by rw [hs2]; exact hfit)
              have hm : More w w' := ⟨f4, f5, f6, f7, fun b hb => f8 b hb (by simp)⟩
              obtain ⟨r1, s1⟩ := rel.push hm gs.length (.arr e k ([] ++ l')) ⟨.slice a' ([] ++ l').length cap', own'⟩ (fun b hb => (f10 b hb).elim (fun e => by cases e) id) ⟨a', cap', ys, rfl, f2, f3, Reps.imp (fun _ _ q => q.fix (hm.fix rel)) f9, f11⟩
              exact ⟨_, w', Fz, _, .one (.arr tbl.length), _, f1, r1, arr_rep (last_at rel.len _) rfl, s1, h⟩
            | val kk y =>
              cases kk with
              | fl e' t' =>
                simp only [baseT] at hk
                split at hk
                · rename_i hee
                  obtain rfl := Option.some.inj hk
                  have hfb' : ¬ (!y.1 || l'.isEmpty) = true := hfb
                  have hfl : y.1 = true := by
                    cases hy : y.1 with
                    | true => rfl
                    | false => exact absurd (by rw [hy]; rfl) hfb'
                  simp only [listOf, dite_true] at hl
                  obtain rfl := Option.some.inj hl
                  obtain ⟨a0, cap, xs, q1, q2, q3, q4, q5⟩ := hA
                  simp only [List.cons.injEq, and_true] at q1
                  subst q1
                  obtain rfl := q5 hfl
                  have hne : 0 < l'.length := by
                    cases l' with
                    | nil => exact absurd (by simp) hfb'
                    | cons _ _ => simp
                  obtain ⟨a', cap', w', ys, own', f1, f2, f3, hm, f9, f10, f11⟩ := append_full (ty := ty) rel (elemT_und he) hu c5 hi hz0 (hs1.trans c1.symm) hzs (by omega) (by omega) q3 q4 hsrc hne (by rw [hs2]; exact hfit)
                  obtain ⟨r1, s1⟩ := rel.push hm gs.length (.arr e t' (y.2 ++ l')) ⟨.slice a' (y.2 ++ l').length cap', own'⟩ f10 ⟨a', cap', ys, rfl, f2, f3, Reps.imp (fun _ _ q => q.fix (hm.fix rel)) f9, f11⟩
                  exact ⟨_, w', Fz, _, .one (.arr tbl.length), _, f1, r1, arr_rep (last_at rel.len _) rfl, s1, h⟩
                · cases hk
              | _ => simp [baseT] at hk
            | _ => simp [baseT] at hk
          · cases h
        · cases h
      · cases h
    · cases h
  · cases h
theorem appendS_ok (rel : Rel C S w Fz gs tbl) {K : Ent → List Slot → Option R} {r : R} {t u ty : TypeId} {a b : Ent} {A B : Value} (hA : RepE C S w Fz gs a A) (hB : RepE C S w Fz gs b B) (h : appendSE P t u a b tbl K = some r) :
    Did P C S w Fz gs ((Builtin.append_ #[t, u] ty #[A, B]).run P w) K r := by
  unfold appendSE at h
  split at h
  · rename_i e d j y he hu
    split at h
    · rename_i sz by_ z e' k l0 hsz hby hz hj
      split at h
      · rename_i hc
        obtain ⟨c0, c1, c2, c3, c4, c5⟩ := hc
        subst c0
        split at h
        · rename_i l' hl'
          split at h
          · rename_i hfit
            obtain ⟨i, zv, hi, hz0, hzv, _⟩ := zero_run hz
            obtain ⟨i1, hi1, hs1⟩ := sizeT_info hsz
            obtain ⟨i2, hi2, hs2⟩ := bytesT_info hby
            obtain rfl : i = i1 := Option.some.inj (hi.symm.trans hi1)
            obtain rfl : i = i2 := Option.some.inj (hi.symm.trans hi2)
            have hB : RepL C S w Fz gs y B := hB
            have hsrc : Src P C S w Fz k B l' := src_ok rel hB hl'
            have hzs : zv.cells.size = k.size := by rw [zero_size hzv, c4, c1]
            obtain ⟨g, a0, n0, cap0, hg, hv, rfl⟩ := hA
            obtain ⟨a1, cap, xs, q1, q2, q3, q4, q5⟩ := rel.slot j _ g hj hg
            rw [hv] at q1
            obtain ⟨rfl, rfl, rfl⟩ := Value.slice.inj q1
            obtain ⟨a', cap', w', ys, own', f1, f2, f3, f4, f5, f6, f7, f8, f9, f10, f11, f12⟩ := append_core2 (ty := ty) rel (elemT_und he) hu c5 hi hz0 (hs1.trans c1.symm) hzs (by omega) (by omega) q2 q3 q4 q5 hsrc (by rw [hs2]; exact hfit)
            have fx : Fix w Fz w' (fun b => Fz b ∨ g.own = some b ∨ own' = some b) := ⟨fun _ h => .inl h, fun q hq => f8 q (rel.fz q hq) (fun e => (rel.own j g q hg e).2 hq)⟩
            have hx : Ext gs (gs.set j ⟨g.v, none⟩) := ext_set hg rfl
            have oldr : RepT C S w' (fun b => Fz b ∨ g.own = some b ∨ own' = some b) (.slice e' k) l0 [g.v] := by
              refine ⟨a0, cap0, xs, by rw [hv], q2, Reps.imp (fun _ _ q => q.fix fx) q4, ?_⟩
              rcases q5 with ⟨p1, p2, p3⟩ | ⟨b, off, cur, p1, p2, p3, p4, p5⟩
              · subst p2; exact .inl q4
              · obtain ⟨cur', k1, k2⟩ := f12 b off p1 p2
                rw [p2]
                exact arr_lies (e := e') (t := k) (n := 0) k1 k2 (.inr (.inl p1))
            have newr : RepT C S w' (fun b => Fz b ∨ g.own = some b ∨ own' = some b) (.slice e' k) (l0 ++ l') [.slice a' (l0 ++ l').length cap'] := by
              refine ⟨a', cap', ys, rfl, f2, Reps.imp (fun _ _ q => q.fix fx) f9, ?_⟩
              rcases f11 with ⟨p1, p2, p3⟩ | ⟨b, off, cur, p1, p2, p3, p4, p5⟩
              · rw [p2] at f9; exact .inl f9
              · rw [p2]
                exact arr_lies (e := e') (t := k) (n := 0) p3 p5 (.inr (.inr p1))
            have own : ∀ (i : Nat) (g' : Gh) (b : Nat), (gs.set j ⟨g.v, none⟩)[i]? = some g' → g'.own = some b → i ≠ j ∧ gs[i]? = some g' := by
              intro i g' b h1 h2
              rcases get_set h1 with ⟨h3, h4⟩ | ⟨h3, h4⟩
              · exact ⟨h3, h4⟩
              · subst h4; cases h2
            have r1 : Rel C S w' (fun b => Fz b ∨ g.own = some b ∨ own' = some b) (gs.set j ⟨g.v, none⟩) (tbl.set j (.frz e' k l0)) := by
              refine rel.gen fx hx (by simp [rel.len]) (fun i s g' h1 h2 => ?_) (fun i i' gi gj b h1 h2 h3 h4 => ?_) (fun i g' b h1 h2 => ?_) (fun b hb => ?_)
              · rcases get_set h2 with ⟨h3, h4⟩ | ⟨h3, h4⟩
                · rcases get_set h1 with ⟨h5, h6⟩ | ⟨h5, h6⟩
                  · exact .inl ⟨h6, h4, fun b hb => f8 b (rel.own i g' b h4 hb).1 (fun e => h3 (rel.apart i j g' g b h4 hg hb e))⟩
                  · exact absurd h5 h3
                · rcases get_set h1 with ⟨h5, h6⟩ | ⟨h5, h6⟩
                  · exact absurd h3 h5
                  · subst h4; subst h6; exact .inr ⟨rfl, oldr⟩
              · exact rel.apart i i' gi gj b (own i gi b h1 h3).2 (own i' gj b h2 h4).2 h3 h4
              · obtain ⟨k1, k2⟩ := own i g' b h1 h2
                have k3 := rel.own i g' b k2 h2
                refine ⟨Nat.lt_of_lt_of_le k3.1 f7, fun hf => ?_⟩
                rcases hf with hf | hf | hf
                · exact k3.2 hf
                · exact k1 (rel.apart i j g' g b k2 hg h2 hf)
                · rcases f10 b hf with h | h
                  · exact k1 (rel.apart i j g' g b k2 hg h2 h)
                  · omega
              · rcases hb with hb | hb | hb
                · exact Nat.lt_of_lt_of_le (rel.fz b hb) f7
                · exact Nat.lt_of_lt_of_le (rel.own j g b hg hb).1 f7
                · rcases f10 b hb with h | h
                  · exact Nat.lt_of_lt_of_le (rel.own j g b hg h).1 f7
                  · exact h.2
            refine ⟨_, w', _, _, .one (.val (.slice e' k) (l0 ++ l')), _, f1, r1, newr, ⟨f4, f5, f6, f7, fun b hb hn => f8 b hb (hn j g hg), fun _ h => .inl h, fun b hb => ?_, fun i g' b h1 h2 => .inr ⟨i, g', (own i g' b h1 h2).2, h2⟩, fun i g' _ hi => hx i g' hi⟩, h⟩
            rcases hb with hb | hb | hb
            · exact .inl hb
            · exact .inr (.inr ⟨j, g, hg, hb⟩)
            · rcases f10 b hb with h | h
              · exact .inr (.inr ⟨j, g, hg, h⟩)
              · exact .inr (.inl h.1)
          · cases h
        · cases h
      · cases h
    · cases h
  · cases h
theorem rep_replicate {t : Ty} {x : t.T} {cs : List Value} (h : RepT C S w Fz t x cs) : ∀ n, Reps (RepT C S w Fz t) (List.replicate n x) (List.replicate n cs).flatten
  | 0 => rfl
  | n + 1 => ⟨cs, _, by rw [List.replicate_succ, List.flatten_cons], h, rep_replicate h n⟩
theorem madeCells_flat (z : Array Value) (hz : 0 < z.size) : ∀ n, (madeCells z (n * z.size)).toList = (List.replicate n z.toList).flatten := by
  intro n
  apply List.ext_getElem?
  intro j
  by_cases hj : j < n * z.size
  · have h1 : (madeCells z (n * z.size)).toList[j]? = some (z[j % z.size]!) := by simp [madeCells, hj]
    rw [h1]
    have : ∀ (m k : Nat), k < m * z.size → (List.replicate m z.toList).flatten[k]? = some (z[k % z.size]!) := by
      intro m
      induction m with
      | zero => intro k hk; simp at hk
      | succ m ih =>
        intro k hk
        rw [List.replicate_succ, List.flatten_cons]
        by_cases hlt : k < z.size
        · rw [List.getElem?_append_left (by simpa using hlt), Nat.mod_eq_of_lt hlt]
          simp [hlt]
        · rw [List.getElem?_append_right (by simp; omega), Array.length_toList, ih (k - z.size) (by rw [Nat.add_mul] at hk; omega)]
          rw [← Nat.mod_eq_sub_mod (by omega)]
    exact (this n j hj).symm
  · rw [List.getElem?_eq_none (by simp [madeCells]; omega), List.getElem?_eq_none]
    have : ∀ m, (List.replicate m z.toList).flatten.length = m * z.size := by
      intro m
      induction m with
      | zero => simp
      | succ m ih => rw [List.replicate_succ, List.flatten_cons, List.length_append, ih, Array.length_toList, Nat.add_mul]; omega
    rw [this]
    omega
theorem makeSlice_ok (rel : Rel C S w Fz gs tbl) {K : Ent → List Slot → Option R} {r : R} {t : TypeId} {a b : Ent} {A B : Value} (hA : RepE C S w Fz gs a A) (hB : RepE C S w Fz gs b B) (h : makeSliceE P C t a b tbl K = some r) :
    Did P C S w Fz gs ((Instr.makeSlice t A B).run P w) K r := by
  unfold makeSliceE at h
  split at h
  · rename_i e he
    split at h
    · rename_i sz by_ z k hsz hby hz hk
      split at h
      · rename_i x s0 n c him
        split at h
        · rename_i hc
          obtain ⟨c1, c2, c3⟩ := hc
          split at h
          · rename_i hle
            obtain ⟨n, rfl⟩ : ∃ m : Int, m = n := ⟨n, rfl⟩
            obtain ⟨c, rfl⟩ : ∃ m : Int, m = c := ⟨c, rfl⟩
            have l1 : (0 : Int) ≤ n := hle.1
            have l2 : n ≤ c := hle.2.1
            have l3 : c * (by_ : Int) ≤ 140737488355328 := hle.2.2.1
            have l4 : c ≤ 140737488355328 := hle.2.2.2
            obtain ⟨i, zv, hi, hz0, hzv, _⟩ := zero_run hz
            obtain ⟨i1, hi1, hs1⟩ := sizeT_info hsz
            obtain ⟨i2, hi2, hs2⟩ := bytesT_info hby
            obtain rfl : i = i1 := Option.some.inj (hi.symm.trans hi1)
            obtain rfl : i = i2 := Option.some.inj (hi.symm.trans hi2)
            obtain rfl : A = .int .i64 n := by simpa [RepE, RepV, RepL, RepT] using hA
            obtain rfl : B = .int .i64 c := by simpa [RepE, RepV, RepL, RepT] using hB
            have hzs : zv.cells.size = k.size := by rw [zero_size hzv, c2, c1]
            have hcells : RepLs C S w Fz gs z.cells zv.cells.toList := by rw [hzv]; exact entOf_cells zv
            obtain ⟨F1, g1, r1, s1, x1, hx⟩ := implode1_ok gs.length rel hcells him
            have hrun := run_make (P := P) w t e i zv (elemT_und he) hi hz0 .i64 .i64 n c l1 l2 (by rw [hs2, Int.mul_comm]; omega) (by omega)
            have hpos : 0 < zv.cells.size := by omega
            obtain ⟨r2, s2⟩ := r1.newArr (More.alloc w (.cells (madeCells zv.cells (c.toNat * i.size)) e)) e k (List.replicate n.toNat x) (cap := c.toNat) (cur := madeCells zv.cells (c.toNat * i.size)) (rep_replicate hx n.toNat) (by simp; omega) (by simp only [maxLen]; omega) (heap_new _ _) (by rw [size_madeCells, hs1, c1]; exact Nat.le_refl _) (by
              rw [hs1, ← c1, ← hzs, madeCells_flat _ hpos, List.length_replicate]
              have h1 := madeCells_flat zv.cells hpos c.toNat
              have h2 : c.toNat = n.toNat + (c.toNat - n.toNat) := by omega
              rw [h2, ← List.replicate_append_replicate, List.flatten_append]
              refine List.take_left' ?_
              rw [← madeCells_flat zv.cells hpos, Array.length_toList, size_madeCells])
            refine ⟨_, _, F1, _, .one (.arr s0.length), _, ?_, r2, arr_rep (last_at r1.len _) rfl, s1.trans (s2.le (ext_le x1)), h⟩
            rw [hrun, List.length_replicate]
          · cases h
        · cases h
      · cases h
    · cases h
  · cases h
theorem makeMap_ok (rel : Rel C S w Fz gs tbl) {K : Ent → List Slot → Option R} {r : R} {t : TypeId} (h : makeMapE P C t tbl K = some r) : Did P C S w Fz gs ((Instr.makeMap t none).run P w) K r := by
  unfold makeMapE at h
  split at h
  · rename_i kT vT hm
    split at h
    · rename_i kt vt hk hv
      split at h
      · obtain ⟨r1, s1⟩ := rel.push (More.alloc w (.map #[] 0)) gs.length (.map kt vt (isAggB P vT == some true) []) ⟨.map (some w.heap.size), some w.heap.size⟩ (fun b hb => by obtain rfl := Option.some.inj hb; simp) ⟨w.heap.size, [], 0, rfl, rfl, heap_new _ _, RepMp.nil, by simp, by simp⟩
        exact ⟨_, _, Fz, _, .one (.map tbl.length), _, rfl, r1, map_rep (last_at rel.len _) rfl, s1, h⟩
      · cases h
    · cases h
  · cases h
end
end Go.Proofs.YtnajjhjbkanigaaDoor.Cm
