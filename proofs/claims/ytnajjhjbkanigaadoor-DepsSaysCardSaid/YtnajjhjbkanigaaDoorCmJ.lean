/- Code as plain functions: stores, parts of slices, lengths, conversions. By this session. -/
import Derived.Test.YtnajjhjbkanigaaDoorCmI
namespace Go.Proofs.YtnajjhjbkanigaaDoor.Cm
open Go
set_option linter.unusedVariables false
set_option linter.unusedSimpArgs false
section
variable {P : Program} {C : Cfg} {S : Nat → Addr} {w : World} {Fz : Nat → Prop} {gs : List Gh} {tbl : List Slot} {R : Type}
theorem splice_window {α : Type} (l new : List α) (p o m : Nat) (h1 : o ≤ p) (h2 : p + new.length ≤ o + m) (h3 : o + m ≤ l.length) :
    ((l.take p ++ new ++ l.drop (p + new.length)).drop o).take m = ((l.drop o).take m).take (p - o) ++ new ++ ((l.drop o).take m).drop (p - o + new.length) := by
  apply List.ext_getElem?
  intro j
  simp only [List.getElem?_take, List.getElem?_drop, List.getElem?_append, List.length_take, List.length_drop, List.length_append]
  by_cases c1 : j < m
  · by_cases c2 : o + j < p
    · rw [if_pos c1, if_pos (by omega), if_pos (by omega), if_pos c2, if_pos (by omega), if_pos (by omega), if_pos (by omega), if_pos c1]
    · by_cases c3 : o + j < p + new.length
      · rw [if_pos c1, if_pos (by omega), if_neg (by omega), if_pos (by omega), if_neg (by omega)]
        congr 1
        omega
      · rw [if_pos c1, if_neg (by omega), if_neg (by omega), if_pos (by omega)]
        congr 1
        omega
  · rw [if_neg c1, if_neg (by omega), if_neg (by omega)]
theorem splice_elem {α : Type} (X new : List α) (a sz off : Nat) (h1 : a + sz ≤ X.length) (h2 : off + new.length ≤ sz) :
    X.take (a + off) ++ new ++ X.drop (a + off + new.length) = X.take a ++ (((X.drop a).take sz).take off ++ new ++ ((X.drop a).take sz).drop (off + new.length)) ++ X.drop (a + sz) := by
  apply List.ext_getElem?
  intro j
  simp only [List.getElem?_take, List.getElem?_drop, List.getElem?_append, List.length_take, List.length_drop, List.length_append]
  by_cases c1 : j < a
  · rw [if_pos (by omega), if_pos (by omega), if_pos (by omega), if_pos (by omega), if_pos (by omega), if_pos (by omega)]
  · by_cases c2 : j < a + off
    · rw [if_pos (by omega), if_pos (by omega), if_pos (by omega), if_pos (by omega), if_neg (by omega), if_pos (by omega), if_pos (by omega), if_pos (by omega), if_pos (by omega)]
      congr 1
      omega
    · by_cases c3 : j < a + off + new.length
      · rw [if_pos (by omega), if_neg (by omega), if_pos (by omega), if_neg (by omega), if_pos (by omega), if_neg (by omega)]
        congr 1
        omega
      · by_cases c4 : j < a + sz
        · rw [if_neg (by omega), if_pos (by omega), if_neg (by omega), if_neg (by omega), if_pos (by omega)]
          congr 1
          omega
        · rw [if_neg (by omega), if_neg (by omega)]
          congr 1
          omega
theorem store_ok (rel : Rel C S w Fz gs tbl) {K : List Slot → Option R} {r : R} {t : TypeId} {a e : Ent} {A V : Value} (hA : RepE C S w Fz gs a A) (hV : RepE C S w Fz gs e V) (h : storeE P t a e tbl K = some r) :
    ∃ w' Fz' gs' s', (Instr.storeAt t A V).run P w = .ok () w' ∧ Rel C S w' Fz' gs' s' ∧ Step gs.length w Fz gs w' Fz' gs' ∧ K s' = some r := by
  unfold storeE at h
  split at h
  · rename_i hc
    obtain ⟨hsz, hk⟩ := hc
    obtain ⟨k1, k2, k3⟩ := okc_cells hk hV
    have hrun : ∀ (b off : Nat) (cur : Array Value) (el : TypeId), A = .pointer (some ⟨b, off, none⟩) → w.heap[b]? = some (.cells cur el (0, 0)) → off + V.cells.size ≤ cur.size →
        (Instr.storeAt t A V).run P w = .ok () (w.setRow b (cur.toList.take off ++ V.cells.toList ++ cur.toList.drop (off + V.cells.toList.length)).toArray) := by
      intro b off cur el hA hb hle
      subst hA
      have hst := run_storeCells_at P b off el V.cells.toList 0 cur w hb (by rw [Array.length_toList]; omega) k2
      simp only [Nat.add_zero] at hst
      simp [Instr.storeAt, Instr.sureAddr, storeVar, sizeT_run (w := w) hsz, k3, hst]
    split at h
    · rename_i j off
      obtain ⟨g, b, hg, hv, rfl⟩ := hA
      split at h
      · rename_i el cs hj
        split at h
        · rename_i cs' hw
          unfold writeCells at hw
          split at hw
          · rename_i hle
            obtain rfl := Option.some.inj hw
            obtain ⟨b', vs, q1, q2, q3, q4⟩ := rel.slot j _ g hj hg
            rw [hv] at q1
            simp only [Value.pointer.injEq, Option.some.injEq, Addr.mk.injEq, and_true] at q1
            subst q1
            have hl := q4.length
            have hr := hrun b off vs.toArray el rfl q3 (by simp; omega)
            refine ⟨_, Fz, gs.set j g, tbl.set j (.obj el (cs.take off ++ e.cells ++ cs.drop (off + e.cells.length))), hr, ?_⟩
            have fx : Fix w Fz (w.setRow b (vs.take off ++ V.cells.toList ++ vs.drop (off + V.cells.toList.length)).toArray) Fz := ⟨fun _ h => h, fun q hq => setRow_other w b q _ (fun e => (rel.own j g q hg (by rw [q2, e])).2 hq)⟩
            have hu := rel.upd (w' := w.setRow b (vs.take off ++ V.cells.toList ++ vs.drop (off + V.cells.toList.length)).toArray) (Fz' := Fz) gs.length hg (.obj el (cs.take off ++ e.cells ++ cs.drop (off + e.cells.length))) g rfl (.inr rfl) rfl rfl rfl (by simp) (fun q hq => setRow_other w b q _ (fun e => hq (by rw [q2, e]))) (fun _ h => h) (fun _ h => .inl h)
              ⟨b, _, hv, q2, setRow_heap w b vs.toArray _ el _ q3, (q4.splice k1 off).fix fx (ext_set hg rfl)⟩
            exact ⟨hu.1, hu.2, h⟩
          · cases hw
        · cases h
      · cases h
    · rename_i j sz i off
      obtain ⟨g, ad, len, cap, hg, hv, hi0, hi1, hsp, rfl⟩ := hA
      split at h
      · rename_i el ty l hj
        split at h
        · rename_i cs hw
          split at h
          · rename_i x s' him
            split at h
            · rename_i e2 t2 l2 hj2
              split at h
              · rename_i hh
                obtain ⟨rfl, hsz2⟩ := hh
                obtain ⟨a0, cap0, xs, q1, q2, q3, q4, q5⟩ := rel.slot j _ g hj hg
                rw [hv] at q1
                obtain ⟨rfl, rfl, rfl⟩ := Value.slice.inj q1
                rcases q5 with ⟨_, hl0, _⟩ | ⟨b, off0, cur, q5, q6, q7, q8, q9⟩
                · subst hl0; simp at hi1; omega
                · obtain rfl := Option.some.inj q6
                  obtain ⟨i', rfl⟩ := Int.eq_ofNat_of_zero_le hi0
                  simp only [Int.toNat_natCast] at *
                  have hi2 : i' < l.length := by omega
                  have hxl := Reps.length (fun _ _ q => RepT.size q) q4
                  have hel := Reps.nth (fun _ _ q => RepT.size q) t2.dflt i' q4 hi2
                  have hex := explode_rep (gs := gs) hel
                  unfold writeCells at hw
                  split at hw
                  · rename_i hle
                    obtain rfl := Option.some.inj hw
                    have hexl := hex.length
                    have hell := RepT.size hel
                    have hin : i' * t2.size + t2.size ≤ l.length * t2.size := by rw [← Nat.succ_mul]; exact Nat.mul_le_mul_right _ hi2
                    have hcap : l.length * t2.size ≤ cap * t2.size := Nat.mul_le_mul_right _ q2
                    have hsp2 := hex.splice k1 off
                    obtain ⟨F1, g1, r1, s1, x1, h5⟩ := implode1_ok gs.length rel hsp2 him
                    obtain ⟨g1j, hg1, hv1⟩ := x1 j g hg
                    obtain ⟨a2, cap2, xs2, p1, p2, p3, p4, p5⟩ := r1.slot j _ g1j hj2 hg1
                    rw [hv1, hv] at p1
                    simp only [Value.slice.injEq, Option.some.injEq] at p1
                    obtain ⟨rfl, hll, rfl⟩ := p1
                    rcases p5 with ⟨_, hl0, _⟩ | ⟨b2, off2, cur2, p5, p6, p7, p8, p9⟩
                    · subst hl0; simp at hll; omega
                    · simp only [Option.some.injEq, Addr.mk.injEq, and_true] at p6
                      obtain ⟨rfl, rfl⟩ := p6
                      rw [q7] at p7
                      simp only [Option.some.injEq, Obj.cells.injEq, and_true] at p7
                      obtain ⟨rfl, rfl⟩ := p7
                      rw [← hll, q9] at p9
                      subst p9
                      have hr := hrun b (off0 + (i' * sz + off)) cur el (by rw [Addr.add_lit]) q7 (by rw [← hsz2, k3]; omega)
                      refine ⟨_, F1, g1.set j g1j, s'.set j (.arr el t2 (l2.set i' x)), hr, ?_⟩
                      have hb1 : g1j.own = some b := p5
                      have fx : Fix w F1 (w.setRow b (cur.toList.take (off0 + (i' * sz + off)) ++ V.cells.toList ++ cur.toList.drop (off0 + (i' * sz + off) + V.cells.toList.length)).toArray) F1 := ⟨fun _ h => h, fun q hq => setRow_other w b q _ (fun e => (r1.own j g1j q hg1 (by rw [hb1, e])).2 hq)⟩
                      have hVl : V.cells.toList.length = e.cells.length := by rw [Array.length_toList, k3]
                      have hset := Reps.set (fun _ _ q => RepT.size q) i' p4 (by omega) h5
                      have hu := r1.upd (w' := w.setRow b (cur.toList.take (off0 + (i' * sz + off)) ++ V.cells.toList ++ cur.toList.drop (off0 + (i' * sz + off) + V.cells.toList.length)).toArray) (Fz' := F1) gs.length hg1 (.arr el t2 (l2.set i' x)) g1j rfl (.inr rfl) rfl rfl rfl (by simp) (fun q hq => setRow_other w b q _ (fun e => hq (by rw [hb1, e]))) (fun _ h => h) (fun _ h => .inl h)
                        ⟨some ⟨b, off0, none⟩, cap, _, by rw [hv1, hv, List.length_set, hll], by rw [List.length_set, ← hll]; exact q2, q3, Reps.imp (fun _ _ q => RepT.fix fx q) hset, .inr ⟨b, off0, _, p5, rfl, setRow_heap w b cur _ el _ q7, by simp; omega, by
                          rw [List.length_set, ← hll]
                          show (List.drop off0 (cur.toList.take (off0 + (i' * sz + off)) ++ V.cells.toList ++ cur.toList.drop (off0 + (i' * sz + off) + V.cells.toList.length))).take (l.length * t2.size) = _
                          rw [splice_window _ _ _ _ _ (by omega) (by rw [hVl, ← hsz2]; omega) (by rw [show cur.toList.length = cur.size from Array.length_toList]; omega), q9]
                          rw [show off0 + (i' * sz + off) - off0 = i' * t2.size + off by rw [hsz2]; omega]
                          rw [splice_elem _ _ _ t2.size _ (by rw [hxl]; exact hin) (by rw [hVl]; omega)]⟩⟩
                      exact ⟨hu.1, s1.trans (hu.2), h⟩
                  · cases hw
              · cases h
            · cases h
          · cases h
        · cases h
      · cases h
    · cases h
  · cases h
end
end Go.Proofs.YtnajjhjbkanigaaDoor.Cm
