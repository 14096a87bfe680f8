/- Code as plain functions: parts of slices, lengths, conversions, maps. By this session. -/
import Derived.Test.YtnajjhjbkanigaaDoorCmK
import Derived.Lib.ConvBytes
namespace Go.Proofs.YtnajjhjbkanigaaDoor.Cm
open Go
set_option linter.unusedVariables false
set_option linter.unusedSimpArgs false
section
variable {P : Program} {C : Cfg} {S : Nat → Addr} {w : World} {Fz : Nat → Prop} {gs : List Gh} {tbl : List Slot} {R : Type}
/-- A new block that nobody writes. -/
theorem Rel.newFrozen (rel : Rel C S w Fz gs tbl) {w' : World} (h : More w w') {b : Nat} (hb : w.heap.size ≤ b) (hb2 : b < w'.heap.size) (n : Nat) :
    Rel C S w' (fun x => Fz x ∨ x = b) gs tbl ∧ Step n w Fz gs w' (fun x => Fz x ∨ x = b) gs := by
  have fx : Fix w Fz w' (fun x => Fz x ∨ x = b) := ⟨fun _ h => .inl h, fun q hq => h.heap q (rel.fz q hq)⟩
  refine ⟨rel.gen fx (Ext.refl _) rel.len (fun i s g h1 h2 => .inl ⟨h1, h2, fun q hq => h.heap q (rel.own i g q h2 hq).1⟩) rel.apart (fun i g q h1 h2 => ⟨Nat.lt_of_lt_of_le (rel.own i g q h1 h2).1 h.size, fun hf => ?_⟩) (fun q hq => ?_), ?_⟩
  · rcases hf with hf | rfl
    · exact (rel.own i g q h1 h2).2 hf
    · have := (rel.own i g q h1 h2).1; omega
  · rcases hq with hq | rfl
    · exact Nat.lt_of_lt_of_le (rel.fz q hq) h.size
    · exact hb2
  · exact ⟨h.os, h.tape, h.output, h.size, fun q hq _ => h.heap q hq, fun _ h => .inl h, fun q hq => hq.elim .inl (fun e => .inr (.inl (e ▸ hb))), fun i g q h1 h2 => .inr ⟨i, g, h1, h2⟩, fun i g _ h => ⟨g, h, rfl⟩⟩
theorem bytes_more (w : World) (e : TypeId) (s : ByteArray) : More w (Lib.bytesWorld w e s) := ⟨rfl, rfl, rfl, by rw [Lib.bytesWorld_size]; omega, fun b hb => Lib.bytesWorld_at_old w e s b hb⟩
theorem reps_bytes : ∀ (l : List Int), Reps (RepT C S w Fz (.int .u8)) l (l.map (Value.int .u8))
  | [] => rfl
  | a :: l => ⟨[.int .u8 a], l.map (Value.int .u8), rfl, rfl, reps_bytes l⟩
theorem reps_ints {k : IntKind} : ∀ {l : List Int} {xs : List Value}, Reps (RepT C S w Fz (.int k)) l xs → xs = l.map (Value.int k)
  | [], xs, r => r
  | a :: l, xs, ⟨c, q, h1, h2, h3⟩ => by rw [h1, show c = _ from h2, reps_ints h3]; rfl
theorem conv_ok (rel : Rel C S w Fz gs tbl) {K : Ent → List Slot → Option R} {r : R} {src dst : TypeId} {a : Ent} {A : Value} (hA : RepE C S w Fz gs a A) (h : convE P src dst a tbl (fun e => K e tbl) = some r) :
    Did P C S w Fz gs ((convert src dst A).run P w) K r := by
  unfold convE at h
  split at h
  · rename_i u k k' n hs hd
    obtain rfl : A = .int k' n := by simpa [RepE, RepV, RepL, RepT] using hA
    exact Did.same rel ⟨_, _, by simp [convert, run_underlying hs, run_underlying hd, Conv.intToInt], int_rep _ _, h⟩
  · rename_i u k' n hs hd
    obtain rfl : A = .int k' n := by simpa [RepE, RepV, RepL, RepT] using hA
    exact Did.same rel ⟨_, _, by simp [convert, run_underlying hs, run_underlying hd, Conv.intToString], str_rep _, h⟩
  · rename_i u x hs hd
    obtain rfl : A = .string x := by simpa [RepE, RepV, RepL, RepT] using hA
    exact Did.same rel ⟨_, _, by simp [convert, run_underlying hs, run_underlying hd], str_rep _, h⟩
  · rename_i e l hni hns hs hd
    split at h
    · rename_i he
      split at h
      · rename_i xs hl
        obtain ⟨a0, cap, cs, rfl, h1, h2, h3⟩ := listOf_ok rel (show RepL C S w Fz gs l A from hA) (fun s e => hns s e) hl
        have hcs := reps_ints h2
        refine Did.same rel ⟨.string (strOfNums xs), _, ?_, str_rep _, h⟩
        cases a0 with
        | none =>
          rcases h3 with h3 | ⟨ad, h3, _⟩
          · rw [hcs] at h3
            obtain rfl : xs = [] := by simpa using h3
            exact run_convert_bytes_nil w src e hs he _ _ dst hd
          · cases h3
        | some ad =>
          rcases h3 with h3 | ⟨ad', h3, hsp, h4⟩
          · rw [hcs] at h3
            obtain rfl : xs = [] := by simpa using h3
            have : (convert src dst (.slice (some ad) 0 cap)).run P w = .ok (.string (strOfNums [])) w := by
              rw [run_convert_bytes_string w src dst e _ 0 cap hs he hd]
              have := run_loadCells_list (P := P) w ad [] (by simp)
              simp only [List.length_nil] at this
              simp [Conv.bytesToString, this]
              rfl
            exact this
          · obtain rfl := Option.some.inj h3
            obtain ⟨b, off, sp⟩ := ad
            simp only at hsp
            subst hsp
            refine run_convert_bytes_arg w src e hs he b off xs.length cap xs rfl (fun i hi => ?_) dst hd
            have := h4 i (.int .u8 (xs.getD i 0)) (by rw [hcs]; simp [List.getElem?_eq_getElem hi, List.getD_eq_getElem?_getD])
            rwa [Addr.add_lit] at this
      · cases h
    · cases h
  · rename_i u e x hs hd
    split at h
    · rename_i he
      obtain rfl : A = .string x := by simpa [RepE, RepV, RepL, RepT] using hA
      have hm := bytes_more w e x
      obtain ⟨r1, s1⟩ := rel.newFrozen hm (b := w.heap.size) (Nat.le_refl _) (by rw [Lib.bytesWorld_size]; omega) gs.length
      have hl : (bytesL x).length = x.size := by rw [bytesL, List.length_map, Array.length_toList]; rfl
      refine ⟨_, _, _, gs, .one (.val (.slice e (.int .u8)) (bytesL x)), tbl, Lib.run_convert_string_bytes w src dst e x hs hd he, r1, ⟨some ⟨w.heap.size, 0, none⟩, _, _, by rw [hl], by rw [hl]; exact grownCap_ge w x.size 0 e, reps_bytes _, .inr ⟨⟨w.heap.size, 0, none⟩, rfl, rfl, .inr rfl, fun j u hj => ?_⟩⟩, s1, h⟩
      have hj' : j < x.size := by rw [← hl]; have := (List.getElem?_eq_some_iff.1 hj).1; simpa using this
      rw [Addr.add_lit, Nat.zero_add, Lib.bytesWorld_cell w e x j hj', ← hj]
      have h' : j < x.data.toList.length := by rw [Array.length_toList]; exact hj'
      simp [bytesL, List.getD_eq_getElem?_getD, List.getElem?_eq_getElem h']
    · cases h
  · cases h
theorem un_ok (rel : Rel C S w Fz gs tbl) {K : Ent → Option R} {r : R} {op : UnOp} {a : Ent} {A : Value} (hA : RepE C S w Fz gs a A) (h : unE op a K = some r) :
    ∃ v e, (Op.unary op A).run P w = .ok v w ∧ RepE C S w Fz gs e v ∧ K e = some r := by
  unfold unE at h
  split at h
  · rename_i k n
    obtain rfl : A = .int k n := by simpa [RepE, RepV, RepL, RepT] using hA
    exact ⟨_, _, rfl, int_rep _ _, h⟩
  · rename_i k n
    obtain rfl : A = .int k n := by simpa [RepE, RepV, RepL, RepT] using hA
    exact ⟨_, _, rfl, int_rep _ _, h⟩
  · rename_i b
    obtain rfl : A = .bool b := by simpa [RepE, RepV, RepL, RepT] using hA
    exact ⟨_, _, rfl, goB_rep _, h⟩
  · cases h
theorem getObj_map {b : Nat} {es : List MapEntry} {clock : Nat} (hb : w.heap[b]? = some (.map es.toArray clock)) : (getObj b).run P w = .ok (.map es.toArray clock) w := MapKept.run_getObj_map hb
theorem RepM.length : ∀ {kt vt : Ty} {ag : Bool} {m : List (kt.T × vt.T)} {es : List MapEntry}, RepM C S w Fz kt vt ag m es → es.length = m.length
  | kt, vt, ag, [], es, r => by rw [show es = [] from r]; rfl
  | kt, vt, ag, p :: m, es, ⟨e, es', h1, h2, h3, h4⟩ => by rw [h1, List.length_cons, RepM.length h4, List.length_cons]
theorem RepMp.length {kt vt : Ty} {ag : Bool} {m : List (kt.T × vt.T)} {es : List MapEntry} (r : RepMp C S w Fz kt vt ag m es) : es.length = m.length := by
  obtain ⟨m', h1, h2, _⟩ := r
  rw [h1.length, h2.length_eq]
theorem len_ok (rel : Rel C S w Fz gs tbl) {K : Ent → Option R} {r : R} {t ty : TypeId} {a : Ent} {A : Value} (hA : RepE C S w Fz gs a A) (h : lenE P t a tbl K = some r) :
    ∃ v e, (Builtin.len_ #[t] ty #[A]).run P w = .ok v w ∧ RepE C S w Fz gs e v ∧ K e = some r := by
  unfold lenE at h
  split at h
  · rename_i x ht
    obtain rfl : A = .string x := by simpa [RepE, RepV, RepL, RepT] using hA
    exact ⟨_, _, by simp [Builtin.len_, run_underlying ht]; rfl, goI_rep _, h⟩
  · rename_i el e ty l ht
    obtain ⟨a0, cap, xs, q1, _⟩ := hA
    simp only [List.cons.injEq, and_true] at q1
    subst q1
    exact ⟨_, _, by simp [Builtin.len_, run_underlying ht]; rfl, goI_rep _, h⟩
  · rename_i el b ht
    obtain ⟨a0, rfl, _⟩ := hA
    exact ⟨_, _, by simp [Builtin.len_, run_underlying ht]; rfl, goI_rep 0, h⟩
  · rename_i el j n ht
    obtain ⟨g, b, hg, hv, rfl⟩ := hA
    exact ⟨_, _, by simp [Builtin.len_, run_underlying ht]; rfl, goI_rep _, h⟩
  · rename_i el j ht
    obtain ⟨g, a0, n0, c0, hg, hv, rfl⟩ := hA
    split at h
    · rename_i e ty l hj
      obtain ⟨a1, cap0, xs, q1, _⟩ := rel.slot j _ g hj hg
      rw [hv] at q1
      obtain ⟨rfl, rfl, rfl⟩ := Value.slice.inj q1
      exact ⟨_, _, by simp [Builtin.len_, run_underlying ht]; rfl, goI_rep _, h⟩
    · rename_i e ty l hj
      obtain ⟨_, a1, cap0, xs, q1, _⟩ := rel.slot j _ g hj hg
      rw [hv] at q1
      simp only [List.cons.injEq, and_true] at q1
      obtain ⟨rfl, rfl, rfl⟩ := Value.slice.inj q1
      exact ⟨_, _, by simp [Builtin.len_, run_underlying ht]; rfl, goI_rep _, h⟩
    · cases h
  · rename_i k1 k2 ht
    rw [show A = _ from hA]
    exact ⟨_, _, by simp [Builtin.len_, run_underlying ht]; rfl, goI_rep 0, h⟩
  · rename_i k1 k2 j ht
    obtain ⟨g, b, hg, hv, rfl⟩ := hA
    split at h
    · rename_i kt vt ag m hj
      obtain ⟨b', es, clock, q1, q2, q3, q4, _⟩ := rel.slot j _ g hj hg
      rw [hv] at q1
      obtain rfl : b = b' := by simpa using q1
      refine ⟨.int .i64 (es.length : Int), goI (m.length : Int), ?_, by rw [q4.length]; exact goI_rep _, h⟩
      simp [Builtin.len_, run_underlying ht, getObj_map q3]
      rfl
    · cases h
  · cases h
theorem minmax_ok {K : Ent → Option R} {r : R} {b : Bool} {l : List Ent} {vs : List Value} (hA : RepEs C S w Fz gs l vs) (h : minmaxE b l K = some r) (tys : Array TypeId) (ty : TypeId) :
    ∃ v e, ((if b then Builtin.max_ tys ty vs.toArray else Builtin.min_ tys ty vs.toArray) : Sem Value).run P w = .ok v w ∧ RepE C S w Fz gs e v ∧ K e = some r := by
  unfold minmaxE at h
  split at h
  · rename_i k x k' y
    obtain ⟨v1, vs1, rfl, h1, v2, vs2, rfl, h2, h3⟩ := hA
    rw [show vs2 = [] from h3]
    obtain rfl : v1 = .int k x := by simpa [RepE, RepV, RepL, RepT] using h1
    obtain rfl : v2 = .int k' y := by simpa [RepE, RepV, RepL, RepT] using h2
    cases b
    · exact ⟨_, _, by simp [Builtin.min_, Builtin.min2]; rfl, int_rep k (mn x y), h⟩
    · exact ⟨_, _, by simp [Builtin.max_, Builtin.max2]; rfl, int_rep k (mx x y), h⟩
  · cases h
theorem index_ok {K : Ent → Option R} {r : R} {t : TypeId} {x : ByteArray} {k : IntKind} {i : Int} (ht : P.underlying t = some .string) (h : (if 0 ≤ i ∧ i < (x.size : Int) then K (.one (.val (.int .u8) ((x.data.toList.getD i.toNat 0).toNat : Int))) else none) = some r) :
    ∃ v e, (Instr.index t (.string x) (.int k i)).run P w = .ok v w ∧ RepE C S w Fz gs e v ∧ K e = some r := by
  split at h
  · rename_i hi
    obtain ⟨i', rfl⟩ := Int.eq_ofNat_of_zero_le hi.1
    have hlt : i' < x.size := by omega
    refine ⟨_, _, ?_, int_rep .u8 _, h⟩
    have h1 : x[i']? = some (x.data.toList.getD i' 0) := by
      have : i' < x.data.toList.length := by rw [Array.length_toList]; exact hlt
      rw [getElem?_pos x i' hlt]
      simp [List.getD_eq_getElem?_getD, List.getElem?_eq_getElem this]
      rfl
    simp [Instr.index, asIntOf, run_underlying ht, h1]
  · cases h
end
end Go.Proofs.YtnajjhjbkanigaaDoor.Cm
