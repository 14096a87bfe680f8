/- Code as plain functions: reads, parts, lengths, conversions. By this session. -/
import Derived.Test.YtnajjhjbkanigaaDoorCmJ
import Derived.Laws.BytesString
namespace Go.Proofs.YtnajjhjbkanigaaDoor.Cm
open Go
set_option linter.unusedVariables false
set_option linter.unusedSimpArgs false
section
variable {P : Program} {C : Cfg} {S : Nat → Addr} {w : World} {Fz : Nat → Prop} {gs : List Gh} {tbl : List Slot} {R : Type}
theorem find_sents {l : List (Nat × Nat)} {g : Nat} {p : Nat × Nat} (h : l.find? (fun p => p.2 == g) = some p) : (p.1, g) ∈ l := by
  have h1 := List.mem_of_find?_eq_some h
  have h2 := List.find?_some h
  simp only [beq_iff_eq] at h2
  rw [← h2]
  exact h1
theorem load_ok (rel : Rel C S w Fz gs tbl) {K : Ent → Option R} {r : R} {t : TypeId} {a : Ent} {A : Value} (hA : RepE C S w Fz gs a A) (h : loadE P C t a tbl K = some r) :
    ∃ v e, (Instr.loadAt t A).run P w = .ok v w ∧ RepE C S w Fz gs e v ∧ K e = some r := by
  unfold loadE at h
  split at h
  · rename_i j off
    obtain ⟨g, b, hg, hv, rfl⟩ := hA
    split at h
    · rename_i el cs hj
      split at h
      · rename_i e he
        obtain ⟨b', vs, q1, q2, q3, q4⟩ := rel.slot j _ g hj hg
        rw [hv] at q1
        simp only [Value.pointer.injEq, Option.some.injEq, Addr.mk.injEq, and_true] at q1
        subst q1
        obtain ⟨v, h1, h2⟩ := loadVar_run (P := P) (ad := ⟨b, 0, none⟩) q4 (fun j u hj => by rw [Addr.add_lit, World.cell?, q3]; simpa using hj) he
        rw [Addr.add_lit, Nat.zero_add] at h1
        exact ⟨v, e, by simp [Instr.loadAt, Instr.sureAddr, h1], h2, h⟩
      · cases h
    · cases h
  · rename_i j sz i off
    obtain ⟨g, ad, len, cap, hg, hv, hi0, hi1, hsp, rfl⟩ := hA
    obtain ⟨i', rfl⟩ := Int.eq_ofNat_of_zero_le hi0
    simp only [Int.toNat_natCast] at *
    have main : ∀ (ty : Ty) (l : List ty.T) (xs : List Value), len = l.length → Reps (RepT C S w Fz ty) l xs → (xs = [] ∨ ∀ j u, xs[j]? = some u → w.cell? (ad.add j) = some u) → ty.size = sz →
        (match readCells P (explode ty (l.getD i' ty.dflt)) off t with | some e => K e | none => none) = some r → ∃ v e, (Instr.loadAt t (.pointer (some (ad.add (i' * sz + off))))).run P w = .ok v w ∧ RepE C S w Fz gs e v ∧ K e = some r := by
      intro ty l xs hl hr hx hsz h
      split at h
      · rename_i e he
        have hel := Reps.nth (fun _ _ q => RepT.size q) ty.dflt i' hr (by omega)
        obtain ⟨v, h1, h2⟩ := loadVar_run (P := P) (w := w) (ad := ad.add (i' * sz)) (explode_rep (gs := gs) hel) (fun j u hj => by
          rw [add_add']
          rw [List.getElem?_take] at hj
          split at hj
          · rw [List.getElem?_drop, hsz] at hj
            rcases hx with hx | hx
            · subst hx; simp at hj
            · exact hx _ u hj
          · cases hj) he
        rw [add_add'] at h1
        exact ⟨v, e, by simp [Instr.loadAt, Instr.sureAddr, h1], h2, h⟩
      · cases h
    split at h
    · rename_i el ty l hj
      split at h
      · rename_i hsz
        obtain ⟨a0, cap0, xs, q1, q2, q3, q4, q5⟩ := rel.slot j _ g hj hg
        rw [hv] at q1
        obtain ⟨rfl, rfl, rfl⟩ := Value.slice.inj q1
        refine main ty l xs rfl q4 ?_ hsz h
        rcases q5 with ⟨_, hl0, _⟩ | ⟨b, off0, cur, q5, q6, q7, q8, q9⟩
        · subst hl0; exact .inl q4
        · obtain rfl := Option.some.inj q6
          rcases arr_lies (Fz := fun _ => True) (e := el) (t := ty) (n := 0) q7 q9 trivial with q | ⟨ad, p1, p2, p3, p4⟩
          · exact .inl q
          · obtain rfl := Option.some.inj p1
            exact .inr p4
      · cases h
    · rename_i el ty l hj
      split at h
      · rename_i hsz
        obtain ⟨_, a0, cap0, xs, q1, q2, q3, q4⟩ := rel.slot j _ g hj hg
        rw [hv] at q1
        simp only [List.cons.injEq, and_true] at q1
        obtain ⟨rfl, rfl, rfl⟩ := Value.slice.inj q1
        refine main ty l xs rfl q3 ?_ hsz h
        rcases q4 with q | ⟨ad, p1, p2, p3, p4⟩
        · exact .inl q
        · obtain rfl := Option.some.inj p1
          exact .inr p4
      · cases h
    · cases h
  · rename_i k x off
    obtain ⟨ad, cs, rfl, hsp, hf, hr, hc⟩ := hA
    split at h
    · rename_i e he
      obtain ⟨v, h1, h2⟩ := loadVar_run (P := P) (explode_rep (gs := gs) hr) hc he
      exact ⟨v, e, by simp [Instr.loadAt, Instr.sureAddr, h1], h2, h⟩
    · cases h
  · rename_i g
    split at h
    · cases h
    · rename_i hb
      split at h
      · rename_i p hp
        have hm := find_sents hp
        obtain ⟨h1, h2, h3, h4⟩ := rel.glob _ _ hm
        have hb : isAggB P t = some false := Classical.not_not.1 hb
        rw [show A = .pointer (some ⟨g, 0, none⟩) from hA]
        refine ⟨.iface C.te (.pointer (some (S p.1))), .one (.val .err (.sent p.1)), ?_, ⟨_, rfl, ⟨g, hm⟩, rfl⟩, h⟩
        simp [Instr.loadAt, Instr.sureAddr, loadVar, aggB_run (w := w) hb, h2]
      · cases h
  · cases h
theorem indexAddr_ok (rel : Rel C S w Fz gs tbl) {K : Ent → Option R} {r : R} {t : TypeId} {a b : Ent} {A B : Value} (hA : RepE C S w Fz gs a A) (hB : RepE C S w Fz gs b B) (h : indexAddrE P t a b tbl K = some r) :
    ∃ v e, (Instr.indexAt t A B).run P w = .ok v w ∧ RepE C S w Fz gs e v ∧ K e = some r := by
  unfold indexAddrE at h
  have hrun : ∀ (sz : Nat) (k : IntKind) (i : Nat) (ad : Addr) (len cap : Nat), (elemT P t).bind (sizeT P) = some sz → i < len → (Instr.indexAt t (.slice (some ad) len cap) (.int k (i : Int))).run P w = .ok (.pointer (some (ad.add (i * sz)))) w := by
    intro sz k i ad len cap hs hi
    cases he : elemT P t with
    | none => rw [he] at hs; cases hs
    | some e =>
      rw [he, Option.bind_some] at hs
      have : (i : Int) < (len : Int) := by omega
      simp [Instr.indexAt, run_underlying (elemT_und he), asIntOf, this, hi, sizeT_run (w := w) hs]
  split at h
  · rename_i sz e ty l k i hs
    split at h
    · rename_i hsz
      obtain ⟨hsz, hsz0⟩ := hsz
      split at h
      · rename_i hi
        obtain ⟨i, rfl⟩ : ∃ m : Int, m = i := ⟨i, rfl⟩
        have i1 : (0 : Int) ≤ i := hi.1
        have i2 : i < (l.length : Int) := hi.2
        obtain ⟨i', rfl⟩ := Int.eq_ofNat_of_zero_le i1
        obtain rfl : B = .int k i' := by simpa [RepE, RepV, RepL, RepT] using hB
        obtain ⟨a0, cap, xs, q1, q2, q3, q4⟩ := hA
        simp only [List.cons.injEq, and_true] at q1
        subst q1
        have hlt : i' < l.length := by omega
        have hel := Reps.nth (fun _ _ q => RepT.size q) ty.dflt i' q3 hlt
        have hxl := Reps.length (fun _ _ q => RepT.size q) q3
        rcases q4 with q4 | ⟨ad, rfl, p2, p3, p4⟩
        · subst q4
          have hs0 : ty.size = 0 := by
            simp only [List.length_nil] at hxl
            rcases Nat.mul_eq_zero.1 hxl.symm with h0 | h0
            · omega
            · exact h0
          omega
        · refine ⟨_, .one (.fad ty (l.getD i' ty.dflt) 0), hrun sz k i' ad l.length cap hs hlt, ⟨ad.add (i' * sz), _, rfl, ?_, ?_, hel, fun j u hj => ?_⟩, h⟩
          · unfold Addr.add; split <;> first | exact p2 | rfl
          · unfold Addr.add; split <;> exact p3
          · rw [add_add']
            rw [List.getElem?_take] at hj
            split at hj
            · rw [List.getElem?_drop, hsz] at hj
              exact p4 _ u hj
            · cases hj
      · cases h
    · cases h
  · rename_i sz j k i hs
    obtain ⟨g, a0, n0, c0, hg, hv, rfl⟩ := hA
    have main : ∀ (ty : Ty) (l : List ty.T), n0 = l.length → ((∃ ad : Addr, a0 = some ad ∧ ad.spot = none) ∨ (ty.size = sz → 0 < sz → l = [])) → (if ty.size = sz ∧ 0 < sz then (if 0 ≤ (show Int from i) ∧ (show Int from i) < (l.length : Int) then K (.one (.elt j sz i 0)) else none) else none) = some r →
        ∃ v e, (Instr.indexAt t (.slice a0 n0 c0) B).run P w = .ok v w ∧ RepE C S w Fz gs e v ∧ K e = some r := by
      intro ty l hl ha h
      split at h
      · rename_i hsz
        split at h
        · rename_i hi
          obtain ⟨i, rfl⟩ : ∃ m : Int, m = i := ⟨i, rfl⟩
          have i1 : (0 : Int) ≤ i := hi.1
          have i2 : i < (l.length : Int) := hi.2
          obtain ⟨i', rfl⟩ := Int.eq_ofNat_of_zero_le i1
          obtain rfl : B = .int k i' := by simpa [RepE, RepV, RepL, RepT] using hB
          rcases ha with ⟨ad, rfl, hsp⟩ | ha
          · refine ⟨_, .one (.elt j sz (i' : Int) 0), hrun sz k i' ad n0 c0 hs (by omega), ⟨g, ad, n0, c0, hg, hv, i1, by omega, hsp, rfl⟩, h⟩
          · rw [ha hsz.1 hsz.2] at i2; simp at i2; omega
        · cases h
      · cases h
    split at h
    · rename_i el ty l hj
      obtain ⟨a1, cap0, xs, q1, q2, q3, q4, q5⟩ := rel.slot j _ g hj hg
      rw [hv] at q1
      obtain ⟨rfl, rfl, rfl⟩ := Value.slice.inj q1
      refine main ty l rfl ?_ h
      rcases q5 with ⟨_, hl0, _⟩ | ⟨b, off0, cur, q5, q6, _⟩
      · exact .inr (fun _ _ => hl0)
      · exact .inl ⟨_, q6, rfl⟩
    · rename_i el ty l hj
      obtain ⟨_, a1, cap0, xs, q1, q2, q3, q4⟩ := rel.slot j _ g hj hg
      rw [hv] at q1
      simp only [List.cons.injEq, and_true] at q1
      obtain ⟨rfl, rfl, rfl⟩ := Value.slice.inj q1
      refine main ty l rfl ?_ h
      rcases q4 with q | ⟨ad, p1, p2, p3, p4⟩
      · refine .inr (fun h1 h2 => ?_)
        subst q
        have hxl := Reps.length (fun _ _ q => RepT.size q) q3
        simp only [List.length_nil] at hxl
        rcases Nat.mul_eq_zero.1 hxl.symm with h0 | h0
        · exact List.eq_nil_of_length_eq_zero h0
        · omega
      · exact .inl ⟨ad, p1, p2⟩
    · cases h
  · rename_i sz j n k i hs
    obtain ⟨g, b, hg, hv, rfl⟩ := hA
    split at h
    · rename_i hi
      obtain ⟨i, rfl⟩ : ∃ m : Int, m = i := ⟨i, rfl⟩
      have i1 : (0 : Int) ≤ i := hi.1
      have i2 : i < (n : Int) := hi.2
      obtain ⟨i', rfl⟩ := Int.eq_ofNat_of_zero_le i1
      obtain rfl : B = .int k i' := by simpa [RepE, RepV, RepL, RepT] using hB
      have := hrun sz k i' ⟨b, 0, none⟩ n n hs (by omega)
      rw [Addr.add_lit, Nat.zero_add] at this
      exact ⟨_, .one (.ptr j (i' * sz)), this, ptr_rep hg hv, h⟩
    · cases h
  · cases h
end
end Go.Proofs.YtnajjhjbkanigaaDoor.Cm
