/- Code as plain functions: maps that are written. By this session. -/
import Derived.Test.YtnajjhjbkanigaaDoorCmM
namespace Go.Proofs.YtnajjhjbkanigaaDoor.Cm
open Go
set_option linter.unusedVariables false
set_option linter.unusedSimpArgs false
section
variable {P : Program} {C : Cfg} {S : Nat → Addr} {w : World} {Fz : Nat → Prop} {gs : List Gh} {tbl : List Slot} {R : Type}
/-- A map's block, turned. -/
theorem Rel.mapSet (rel : Rel C S w Fz gs tbl) {j b : Nat} {g : Gh} (hg : gs[j]? = some g) (hv : g.v = .map (some b)) (ho : g.own = some b) {es0 : Obj} (hb : w.heap[b]? = some es0) {kt vt : Ty} {ag : Bool} {m : List (kt.T × vt.T)} {es : List MapEntry} {clock : Nat}
    (hr : RepMp C S w Fz kt vt ag m es) (h1 : ∀ e ∈ es, e.born < clock) (h2 : (es.map (·.born)).Nodup) :
    Rel C S { w with heap := w.heap.setIfInBounds b (.map es.toArray clock) } Fz (gs.set j g) (tbl.set j (.map kt vt ag m)) ∧ Step gs.length w Fz gs { w with heap := w.heap.setIfInBounds b (.map es.toArray clock) } Fz (gs.set j g) := by
  have hs := MapKept.heap_set (o' := .map es.toArray clock) hb
  have fx : Fix w Fz { w with heap := w.heap.setIfInBounds b (.map es.toArray clock) } Fz := ⟨fun _ h => h, fun q hq => hs.2 q (fun e => (rel.own j g q hg (by rw [ho, e])).2 hq)⟩
  exact rel.upd gs.length hg (.map kt vt ag m) g rfl (.inr rfl) rfl rfl rfl (by simp) (fun q hq => hs.2 q (fun e => hq (by rw [ho, e]))) (fun _ h => h) (fun _ h => .inl h) ⟨b, es, clock, hv, ho, hs.1, hr.fix fx, h1, h2⟩
theorem born_push {es : List MapEntry} {clock : Nat} (h1 : ∀ e ∈ es, e.born < clock) (h2 : (es.map (·.born)).Nodup) (k v : Value) :
    (∀ e ∈ es ++ [(⟨k, v, clock⟩ : MapEntry)], e.born < clock + 1) ∧ ((es ++ [(⟨k, v, clock⟩ : MapEntry)]).map (·.born)).Nodup := by
  refine ⟨fun e he => ?_, ?_⟩
  · rcases List.mem_append.1 he with he | he
    · have := h1 e he; omega
    · obtain rfl := List.mem_singleton.1 he; simp
  · rw [List.map_append, List.nodup_append]
    refine ⟨h2, by simp, fun a ha b hb => ?_⟩
    obtain ⟨e, he, rfl⟩ := List.mem_map.1 ha
    obtain rfl : b = clock := by simpa using hb
    have := h1 e he
    omega
theorem born_set {es : List MapEntry} {clock : Nat} (h1 : ∀ e ∈ es, e.born < clock) (h2 : (es.map (·.born)).Nodup) {j : Nat} {e e' : MapEntry} (hj : es[j]? = some e) (hb : e'.born = e.born) :
    (∀ x ∈ es.set j e', x.born < clock) ∧ ((es.set j e').map (·.born)).Nodup := by
  have hm : (es.set j e').map (·.born) = es.map (·.born) := by
    rw [List.map_set]
    apply List.ext_getElem?
    intro i
    rw [List.getElem?_set]
    split
    · rename_i hi
      subst hi
      rw [if_pos (by simpa using (List.getElem?_eq_some_iff.1 hj).1), List.getElem?_map, hj, hb]
      rfl
    · rfl
  refine ⟨fun x hx => ?_, by rw [hm]; exact h2⟩
  have : x.born ∈ (es.set j e').map (·.born) := List.mem_map.2 ⟨x, hx, rfl⟩
  rw [hm] at this
  obtain ⟨y, hy, e1⟩ := List.mem_map.1 this
  rw [← e1]
  exact h1 y hy
theorem mapUpdate_ok (rel : Rel C S w Fz gs tbl) {K : List Slot → Option R} {r : R} {t : TypeId} {a b c : Ent} {A B V : Value} (hA : RepE C S w Fz gs a A) (hB : RepE C S w Fz gs b B) (hV : RepE C S w Fz gs c V) (h : mapUpdateE P t a b c tbl K = some r) :
    ∃ w' Fz' gs' s', (Instr.mapUpdate t A B V).run P w = .ok () w' ∧ Rel C S w' Fz' gs' s' ∧ Step gs.length w Fz gs w' Fz' gs' ∧ K s' = some r := by
  unfold mapUpdateE at h
  split at h
  · rename_i kT vT hm
    split at h
    · rename_i j
      obtain ⟨g, q, hg, hv, rfl⟩ := hA
      split at h
      · rename_i kt vt ag l hj
        split at h
        · rename_i hc
          obtain ⟨hk, hag, hok⟩ := hc
          split at h
          · rename_i k v s2 hke him
            split at h
            · rename_i kt2 vt2 ag2 l2 hj2
              split at h
              · rename_i hh
                obtain ⟨rfl, rfl, rfl⟩ := hh
                have hB := key_of hk hB hke
                subst hB
                obtain ⟨c1, c2, c3⟩ := okc_cells hok hV
                obtain ⟨F1, g1, r1, s1, x1, hvx⟩ := implode1_ok gs.length rel c1 him
                obtain ⟨g1j, hg1, hv1⟩ := x1 j g hg
                obtain ⟨q', es, clock, p1, p2, p3, p4, p5, p6⟩ := r1.slot j _ g1j hj2 hg1
                rw [hv1, hv] at p1
                obtain rfl : q = q' := by simpa using p1
                obtain ⟨d, hd⟩ : ∃ d, P.underlying kT = some d := by
                  rcases keyOk_und hk with ⟨k1, k2, _, hu, _⟩ | ⟨_, hu⟩ <;> exact ⟨_, hu⟩
                have hval : RepVal C S w F1 ag2 vt2 v V := by
                  obtain ⟨o1, o2⟩ := okc_agg hok hV
                  cases hza : ag2 with
                  | true =>
                    obtain ⟨vs, rfl⟩ := o1 (hag.trans hza)
                    exact .inl ⟨rfl, vs, rfl, hvx⟩
                  | false =>
                    have := cells_one (o2 (hag.trans hza))
                    rw [this] at hvx
                    exact .inr ⟨rfl, hvx⟩
                have hund := mapT_und hm
                have hst := MapKept.run_keyThatStays (P := P) (w := w) (key_is hk hd k)
                have hck := fun e => MapKept.run_checkKey (P := P) (w := w) hd (key_is hk hd k) e 9999
                rcases find_mp hk hd k 0 p4 with ⟨f1, f2, f3, f4⟩ | ⟨jx, e, v0, f1, f2, f3, f4, f5, f6, f7⟩
                · have hfk := MapKept.run_findKey (P := P) (w := w) hd f1
                  obtain ⟨b1, b2⟩ := born_push p5 p6 (keyV kt2 k) V
                  obtain ⟨r2, st2⟩ := r1.mapSet hg1 (hv1.trans hv) p2 p3 (m := mset (keyEq kt2) k v l2) (es := es ++ [(⟨keyV kt2 k, V, clock⟩ : MapEntry)]) (clock := clock + 1) (f3 _ _ rfl hval) b1 b2
                  refine ⟨_, F1, _, _, ?_, r2, s1.trans (st2.le (ext_le x1)), h⟩
                  have hset := MapKept.run_setObj_map (P := P) (.map (es ++ [(⟨keyV kt2 k, V, clock⟩ : MapEntry)]).toArray (clock + 1)) p3
                  simp only [Instr.mapUpdate, run_underlying hund, getObj_map p3, hck, hfk, Sem.run_bind, Result.andThen]
                  rw [← hset]
                  congr 3
                  simp
                · have hfk := MapKept.run_findKey (P := P) (w := w) hd f1
                  obtain ⟨b1, b2⟩ := born_set p5 p6 (e' := { e with key := keyV kt2 k, val := V }) f2 rfl
                  obtain ⟨r2, st2⟩ := r1.mapSet hg1 (hv1.trans hv) p2 p3 (m := mset (keyEq kt2) k v l2) (es := es.set jx { e with key := keyV kt2 k, val := V }) (clock := clock) (f6 _ _ rfl hval) b1 b2
                  refine ⟨_, F1, _, _, ?_, r2, s1.trans (st2.le (ext_le x1)), h⟩
                  have hset := MapKept.run_setObj_map (P := P) (.map (es.set jx { e with key := keyV kt2 k, val := V }).toArray clock) p3
                  have hmod : (es.toArray.modify jx fun e => { e with key := keyV kt2 k, val := V }) = (es.set jx { e with key := keyV kt2 k, val := V }).toArray := by
                    apply Array.ext'
                    rw [Array.toList_modify]
                    simp only
                    apply List.ext_getElem?
                    intro i
                    rw [List.getElem?_modify, List.getElem?_set]
                    by_cases hi : jx = i
                    · subst hi
                      have := (List.getElem?_eq_some_iff.1 f2).1
                      simp only [f2, this, if_true]
                      rfl
                    · simp [hi]
                  have hkey : ((es.toArray[jx]?).map (·.key)).getD (keyV kt2 k) = keyV kt2 k := by simp [f2, f3]
                  simp only [Nat.zero_add] at hfk
                  simp only [Instr.mapUpdate, run_underlying hund, getObj_map p3, hck, hfk, Sem.run_bind, Result.andThen, hkey, hst, hmod]
                  exact hset
              · cases h
            · cases h
          · cases h
        · cases h
      · cases h
    · cases h
  · cases h
theorem delete_ok (rel : Rel C S w Fz gs tbl) {K : List Slot → Option R} {r : R} {t u ty : TypeId} {a b : Ent} {A B : Value} (hA : RepE C S w Fz gs a A) (hB : RepE C S w Fz gs b B) (h : deleteE P t a b tbl K = some r) :
    ∃ w' Fz' gs' s', (Builtin.delete_ #[t, u] ty #[A, B]).run P w = .ok (.tuple #[]) w' ∧ Rel C S w' Fz' gs' s' ∧ Step gs.length w Fz gs w' Fz' gs' ∧ K s' = some r := by
  unfold deleteE at h
  split at h
  · rename_i kT vT hm
    split at h
    · rename_i j
      obtain ⟨g, q, hg, hv, rfl⟩ := hA
      split at h
      · rename_i kt vt ag l hj
        split at h
        · rename_i hk
          split at h
          · rename_i k hke
            have hB := key_of hk hB hke
            subst hB
            obtain ⟨q', es, clock, p1, p2, p3, p4, p5, p6⟩ := rel.slot j _ g hj hg
            rw [hv] at p1
            obtain rfl : q = q' := by simpa using p1
            obtain ⟨d, hd⟩ : ∃ d, P.underlying kT = some d := by
              rcases keyOk_und hk with ⟨k1, k2, _, hu, _⟩ | ⟨_, hu⟩ <;> exact ⟨_, hu⟩
            have hund := mapT_und hm
            have hck := fun e => MapKept.run_checkKey (P := P) (w := w) hd (key_is hk hd k) e 9999
            rcases find_mp hk hd k 0 p4 with ⟨f1, f2, f3, f4⟩ | ⟨jx, e, v0, f1, f2, f3, f4, f5, f6, f7⟩
            · have hfk := MapKept.run_findKey (P := P) (w := w) hd f1
              obtain ⟨r2, st2⟩ := rel.mapSet hg hv p2 p3 (m := mdel (keyEq kt) k l) (es := es) (clock := clock) f4 p5 p6
              refine ⟨_, Fz, _, _, ?_, r2, st2, h⟩
              have hset := MapKept.run_setObj_map (P := P) (.map es.toArray clock) p3
              simp [Builtin.delete_, run_underlying hund, getObj_map p3, hck, hfk, Result.andThen]
              rw [hset]
            · have hfk := MapKept.run_findKey (P := P) (w := w) hd f1
              have hjx := (List.getElem?_eq_some_iff.1 f2).1
              have hsub : (es.eraseIdx jx).Sublist es := List.eraseIdx_sublist es jx
              obtain ⟨r2, st2⟩ := rel.mapSet hg hv p2 p3 (m := mdel (keyEq kt) k l) (es := es.eraseIdx jx) (clock := clock) f7 (fun e he => p5 e (hsub.mem he)) ((hsub.map _).nodup p6)
              refine ⟨_, Fz, _, _, ?_, r2, st2, h⟩
              have hset := MapKept.run_setObj_map (P := P) (.map (es.eraseIdx jx).toArray clock) p3
              have her : es.toArray.eraseIdxIfInBounds jx = (es.eraseIdx jx).toArray := by
                simp [Array.eraseIdxIfInBounds, hjx]
              simp only [Nat.zero_add] at hfk
              simp [Builtin.delete_, run_underlying hund, getObj_map p3, hck, hfk, Result.andThen, her]
              rw [hset]
          · cases h
        · cases h
      · cases h
    · cases h
  · cases h
theorem clear_ok (rel : Rel C S w Fz gs tbl) {t ty : TypeId} {d : TypeDesc} (ht : P.underlying t = some d) {j : Nat} {A : Value} (hA : RepE C S w Fz gs (.one (.map j)) A) {kt vt : Ty} {ag : Bool} {l : List (kt.T × vt.T)} (hj : tbl[j]? = some (.map kt vt ag l)) :
    ∃ w' Fz' gs', (Builtin.clear_ #[t] ty #[A]).run P w = .ok (.tuple #[]) w' ∧ Rel C S w' Fz' gs' (tbl.set j (.map kt vt ag [])) ∧ Step gs.length w Fz gs w' Fz' gs' := by
  obtain ⟨g, q, hg, hv, rfl⟩ := hA
  obtain ⟨q', es, clock, p1, p2, p3, p4, p5, p6⟩ := rel.slot j _ g hj hg
  rw [hv] at p1
  obtain rfl : q = q' := by simpa using p1
  obtain ⟨r2, st2⟩ := rel.mapSet hg hv p2 p3 (kt := kt) (vt := vt) (ag := ag) (m := []) (es := []) (clock := clock) RepMp.nil (by simp) (by simp)
  refine ⟨_, Fz, _, ?_, r2, st2⟩
  have hset := MapKept.run_setObj_map (P := P) (.map #[] clock) p3
  cases d <;> simp [Builtin.clear_, run_underlying ht, getObj_map p3, Result.andThen] <;> rw [hset]
end
end Go.Proofs.YtnajjhjbkanigaaDoor.Cm
