/- Code as plain functions: parts of slices; maps. By this session. -/
import Derived.Test.YtnajjhjbkanigaaDoorCmL
namespace Go.Proofs.YtnajjhjbkanigaaDoor.Cm
open Go
set_option linter.unusedVariables false
set_option linter.unusedSimpArgs false
section
variable {P : Program} {C : Cfg} {S : Nat → Addr} {w : World} {Fz : Nat → Prop} {gs : List Gh} {tbl : List Slot} {R : Type}
def RepO (C : Cfg) (S : Nat → Addr) (w : World) (Fz : Nat → Prop) (gs : List Gh) (e : Option Ent) (v : Option Value) : Prop :=
  match e, v with
  | none, none => True
  | some e, some v => RepE C S w Fz gs e v
  | _, _ => False
theorem cutB_ok {K : Int → Int → Option R} {r : R} {isS : Bool} {len cap : Nat} {lo hi : Option Ent} {L H : Option Value} (hlo : RepO C S w Fz gs lo L) (hhi : RepO C S w Fz gs hi H) (hcap : len ≤ cap) (h : cutB (len : Int) lo hi K = some r) :
    ∃ a b : Nat, (Instr.sliceBounds isS len cap L H none).run P w = .ok (a, b, cap) w ∧ a ≤ b ∧ b ≤ len ∧ K a b = some r := by
  unfold cutB at h
  split at h
  · have hL : L = none := by cases L <;> first | rfl | exact hlo.elim
    have hH : H = none := by cases H <;> first | rfl | exact hhi.elim
    subst hL; subst hH
    exact ⟨0, len, by simp [Instr.sliceBounds], Nat.zero_le _, Nat.le_refl _, h⟩
  · rename_i k a
    have hH : H = none := by cases H <;> first | rfl | exact hhi.elim
    subst hH
    cases L with
    | none => exact hlo.elim
    | some L =>
      obtain rfl : L = .int k a := by simpa [RepO, RepE, RepV, RepL, RepT] using hlo
      split at h
      · rename_i hc
        obtain ⟨a, rfl⟩ : ∃ m : Int, m = a := ⟨a, rfl⟩
        obtain ⟨a', rfl⟩ := Int.eq_ofNat_of_zero_le (show (0 : Int) ≤ a from hc.1)
        have h2 : (a' : Int) ≤ (len : Int) := hc.2
        refine ⟨a', len, ?_, by omega, Nat.le_refl _, h⟩
        simp [Instr.sliceBounds, Instr.sliceBound, asIntOf, show a' ≤ len by omega]
      · cases h
  · rename_i k b
    have hL : L = none := by cases L <;> first | rfl | exact hlo.elim
    subst hL
    cases H with
    | none => exact hhi.elim
    | some H =>
      obtain rfl : H = .int k b := by simpa [RepO, RepE, RepV, RepL, RepT] using hhi
      split at h
      · rename_i hc
        obtain ⟨b, rfl⟩ : ∃ m : Int, m = b := ⟨b, rfl⟩
        obtain ⟨b', rfl⟩ := Int.eq_ofNat_of_zero_le (show (0 : Int) ≤ b from hc.1)
        have h2 : (b' : Int) ≤ (len : Int) := hc.2
        refine ⟨0, b', ?_, Nat.zero_le _, by omega, h⟩
        simp [Instr.sliceBounds, Instr.sliceBound, asIntOf, show b' ≤ cap by omega]
      · cases h
  · rename_i k a k' b
    cases L with
    | none => exact hlo.elim
    | some L =>
      cases H with
      | none => exact hhi.elim
      | some H =>
        obtain rfl : L = .int k a := by simpa [RepO, RepE, RepV, RepL, RepT] using hlo
        obtain rfl : H = .int k' b := by simpa [RepO, RepE, RepV, RepL, RepT] using hhi
        split at h
        · rename_i hc
          obtain ⟨a, rfl⟩ : ∃ m : Int, m = a := ⟨a, rfl⟩
          obtain ⟨b, rfl⟩ : ∃ m : Int, m = b := ⟨b, rfl⟩
          have h1 : (0 : Int) ≤ a := hc.1
          have h2 : a ≤ b := hc.2.1
          have h3 : b ≤ (len : Int) := hc.2.2
          obtain ⟨a', rfl⟩ := Int.eq_ofNat_of_zero_le h1
          obtain ⟨b', rfl⟩ := Int.eq_ofNat_of_zero_le (show (0 : Int) ≤ b by omega)
          refine ⟨a', b', ?_, by omega, by omega, h⟩
          simp [Instr.sliceBounds, Instr.sliceBound, asIntOf, show b' ≤ cap by omega, show a' ≤ b' by omega]
        · cases h
  · cases h
theorem cutL_len {α : Type} (l : List α) (a b : Nat) (h1 : a ≤ b) (h2 : b ≤ l.length) : (cutL l (a : Int) (b : Int)).length = b - a := by simp [cutL]; omega
theorem cut_reps {α : Type} {Q : α → List Value → Prop} {n : Nat} (hn : ∀ a c, Q a c → c.length = n) {l : List α} {xs : List Value} (h : Reps Q l xs) (a b : Nat) : Reps Q (cutL l (a : Int) (b : Int)) ((xs.take (b * n)).drop (a * n)) := by
  have := Reps.drop hn a (Reps.take hn b h)
  simpa [cutL] using this
theorem slice_ok (rel : Rel C S w Fz gs tbl) {K : Ent → List Slot → Option R} {r : R} {re : Bool} {t : TypeId} {a : Ent} {A : Value} {lo hi : Option Ent} {L H : Option Value} (hA : RepE C S w Fz gs a A) (hlo : RepO C S w Fz gs lo L) (hhi : RepO C S w Fz gs hi H)
    (h : sliceE P re t a lo hi tbl K = some r) : Did P C S w Fz gs ((Instr.sliceAt t A L H none).run P w) K r := by
  unfold sliceE at h
  have hrun : ∀ (el : TypeId) (sz : Nat) (a0 : Option Addr) (len cap x y : Nat), P.underlying t = some (.slice el) → sizeT P el = some sz → (Instr.sliceBounds true len cap L H none).run P w = .ok (x, y, cap) w →
      (Instr.sliceAt t (.slice a0 len cap) L H none).run P w = .ok (.slice (if cap = x then a0 else a0.map (·.add (x * sz))) (y - x) (cap - x)) w := by
    intro el sz a0 len cap x y ht hs hb
    simp [Instr.sliceAt, Instr.slice, run_underlying ht, hb, sizeT_run (w := w) hs]
  have hval : ∀ (el e : TypeId) (ty : Ty) (l : List ty.T) (a0 : Option Addr) (cap : Nat) (xs : List Value) (Fz' : Nat → Prop) (gs' : List Gh) (tbl' : List Slot), P.underlying t = some (.slice el) → sizeT P el = some ty.size → l.length ≤ cap → Reps (RepT C S w Fz' ty) l xs → Lies w Fz' a0 xs →
      Rel C S w Fz' gs' tbl' → Step gs.length w Fz gs w Fz' gs' → (cutB (l.length : Int) lo hi fun a b => K (.one (.val (.slice e ty) (cutL l a b))) tbl') = some r → Did P C S w Fz gs ((Instr.sliceAt t (.slice a0 l.length cap) L H none).run P w) K r := by
    intro el e ty l a0 cap xs Fz' gs' tbl' ht hs hcap hr hx rel' st h
    obtain ⟨x, y, hb, hxy, hyl, h⟩ := cutB_ok (P := P) (isS := true) hlo hhi hcap h
    refine ⟨_, w, Fz', gs', .one (.val (.slice e ty) (cutL l x y)), tbl', hrun el ty.size a0 l.length cap x y ht hs hb, rel', ?_, st, h⟩
    have hcr := cut_reps (fun _ _ q => RepT.size q) hr x y
    refine ⟨_, cap - x, _, by rw [cutL_len l x y hxy hyl], by rw [cutL_len l x y hxy hyl]; omega, hcr, ?_⟩
    rcases hx with hx | ⟨ad, rfl, h1, h2, h3⟩
    · subst hx; left; simp
    · by_cases hc : cap = x
      · left
        have : y = x := by omega
        subst this
        exact List.drop_eq_nil_of_le (by simp; omega)
      · right
        rw [if_neg hc]
        refine ⟨ad.add (x * ty.size), rfl, ?_, ?_, fun j u hj => ?_⟩
        · unfold Addr.add; split <;> first | exact h1 | rfl
        · unfold Addr.add; split <;> exact h2
        · rw [add_add']
          rw [List.getElem?_drop, List.getElem?_take] at hj
          split at hj
          · exact h3 _ u hj
          · cases hj
  split at h
  · rename_i x ht
    obtain rfl : A = .string x := by simpa [RepE, RepV, RepL, RepT] using hA
    obtain ⟨a', b', hb, h1, h2, h3⟩ := cutB_ok (P := P) (isS := false) (len := x.size) (cap := x.size) hlo hhi (Nat.le_refl _) h
    exact Did.same rel ⟨_, _, by simp [Instr.sliceAt, Instr.slice, run_underlying ht, hb], str_rep (x.extract a' b'), h3⟩
  · rename_i el e ty l ht
    split at h
    · rename_i hs
      obtain ⟨a0, cap, xs, q1, q2, q3, q4⟩ := hA
      simp only [List.cons.injEq, and_true] at q1
      subst q1
      exact hval el e ty l a0 cap xs Fz gs tbl ht hs q2 q3 q4 rel (Step.refl _ _ _ _) h
    · cases h
  · rename_i el b ht
    split at h
    · rename_i hs
      obtain ⟨sz, hs⟩ := Option.isSome_iff_exists.1 hs
      obtain ⟨a0, rfl, _⟩ := hA
      obtain ⟨x, y, hb, hxy, hyl, h⟩ := cutB_ok (P := P) (isS := true) (len := 0) (cap := 0) hlo hhi (Nat.le_refl _) h
      obtain rfl : y = 0 := by omega
      obtain rfl : x = 0 := by omega
      exact Did.same rel ⟨_, .one (.emp false), hrun el sz a0 0 0 0 0 ht hs hb, ⟨a0, by simp, by simp⟩, h⟩
    · cases h
  · rename_i el j ht
    obtain ⟨g, a0, n0, c0, hg, hv, rfl⟩ := hA
    split at h
    · rename_i e ty l hj
      split at h
      · rename_i hs
        obtain ⟨a1, cap0, xs, q1, q2, q3, q4, q5⟩ := rel.slot j _ g hj hg
        rw [hv] at q1
        obtain ⟨rfl, rfl, rfl⟩ := Value.slice.inj q1
        split at h
        · obtain ⟨x, y, hb, hxy, hyl, h⟩ := cutB_ok (P := P) (isS := true) hlo hhi q2 h
          have hcl := cutL_len l x y hxy hyl
          have hcr := cut_reps (fun _ _ q => RepT.size q) q4 x y
          have happ : ∃ own', (∀ b, own' = some b → g.own = some b) ∧ SlotRep C S w Fz (gs.set j ⟨g.v, none⟩ ++ [⟨.slice (if c0 = x then a0 else a0.map (·.add (x * ty.size))) (y - x) (c0 - x), own'⟩]) (.arr e ty (cutL l x y)) ⟨.slice (if c0 = x then a0 else a0.map (·.add (x * ty.size))) (y - x) (c0 - x), own'⟩ := by
            rcases q5 with ⟨p1, p2, p3⟩ | ⟨b, off, cur, p1, p2, p3, p4, p5⟩
            · subst p2
              refine ⟨none, by simp, _, _, _, by rw [hcl], by rw [hcl]; omega, by simp only [maxLen]; omega, hcr, .inl ⟨rfl, by simp [cutL], by omega⟩⟩
            · subst p2
              refine ⟨some b, fun q hq => hq ▸ p1, _, _, _, by rw [hcl], by rw [hcl]; omega, by omega, hcr, .inr ?_⟩
              have hxl := Reps.length (fun _ _ q => RepT.size q) q4
              by_cases hc : c0 = x
              · have : y = x := by omega
                subst this
                refine ⟨b, off, cur, rfl, by rw [if_pos hc], p3, by rw [hc, Nat.sub_self]; omega, ?_⟩
                rw [hcl, Nat.sub_self, Nat.zero_mul, List.take_zero]
                exact (List.drop_eq_nil_of_le (by simp; omega)).symm
              · have hmul : x * ty.size + (c0 - x) * ty.size = c0 * ty.size := by rw [← Nat.add_mul]; congr 1; omega
                refine ⟨b, off + x * ty.size, cur, rfl, by rw [if_neg hc]; simp [Addr.add_lit], p3, by omega, ?_⟩
                rw [hcl, ← p5, List.take_take, Nat.min_eq_left (Nat.mul_le_mul_right _ hyl), List.drop_take, List.drop_drop, Nat.sub_mul]
          obtain ⟨own', ho, hrep⟩ := happ
          obtain ⟨r1, s1⟩ := rel.app (w' := w) gs.length hg (.arr e ty (cutL l x y)) ⟨.slice (if c0 = x then a0 else a0.map (·.add (x * ty.size))) (y - x) (c0 - x), own'⟩ rfl rfl rfl (Nat.le_refl _) (fun _ _ _ => rfl) (fun b hb => .inl (ho b hb)) hrep
          refine ⟨_, w, Fz, _, .one (.arr tbl.length), _, hrun el ty.size a0 l.length c0 x y ht hs hb, r1, arr_rep (g := ⟨.slice (if c0 = x then a0 else a0.map (·.add (x * ty.size))) (y - x) (c0 - x), own'⟩) ?_ rfl, s1, h⟩
          have : (gs.set j ⟨g.v, none⟩).length = tbl.length := by rw [List.length_set, rel.len]
          exact last_at this _
        · obtain ⟨F1, r1, s1, h5⟩ := rel.freeze gs.length hg hj
          obtain ⟨a2, cap2, xs2, p1, p2, p3, p4⟩ := h5
          rw [hv] at p1
          simp only [List.cons.injEq, and_true, Value.slice.injEq, true_and] at p1
          obtain ⟨rfl, rfl⟩ := p1
          exact hval el e ty l a0 c0 xs2 F1 _ _ ht hs p2 p3 p4 r1 s1 h
      · cases h
    · rename_i e ty l hj
      split at h
      · rename_i hs
        obtain ⟨_, a1, cap0, xs, q1, q2, q3, q4⟩ := rel.slot j _ g hj hg
        rw [hv] at q1
        simp only [List.cons.injEq, and_true] at q1
        obtain ⟨rfl, rfl, rfl⟩ := Value.slice.inj q1
        exact hval el e ty l a0 c0 xs Fz gs tbl ht hs q2 q3 q4 rel (Step.refl _ _ _ _) h
      · cases h
    · cases h
  · cases h

/-! ### maps -/
theorem keyOk_und {t : TypeId} {kt : Ty} (h : keyOk P t kt = true) : (∃ k k', kt = .int k ∧ P.underlying t = some (.int k') ∧ k = k') ∨ (kt = .str ∧ P.underlying t = some .string) := by
  unfold keyOk at h
  split at h
  · split at h
    · rename_i k k' hu; exact .inl ⟨_, _, rfl, hu, of_decide_eq_true h⟩
    · cases h
  · split at h
    · rename_i hu; exact .inr ⟨rfl, hu⟩
    · cases h
  · cases h
/-- A key's value. -/
def keyV : (t : Ty) → t.T → Value
  | .int k, x => .int k x
  | .str, x => .string x
  | _, _ => undef
theorem key_rep {t : TypeId} {kt : Ty} (h : keyOk P t kt = true) {k : kt.T} {v : Value} : RepT C S w Fz kt k [v] ↔ v = keyV kt k := by
  rcases keyOk_und h with ⟨k', k'', rfl, _, _⟩ | ⟨rfl, _⟩ <;> simp [RepT, keyV]
theorem sameNow_key {t : TypeId} {kt : Ty} (h : keyOk P t kt = true) {d : TypeDesc} (hd : P.underlying t = some d) (a b : kt.T) : Instr.sameNow d (keyV kt a) (keyV kt b) = some (keyEq kt a b) ∧ (keyEq kt a b = true → a = b) := by
  rcases keyOk_und h with ⟨k, k', rfl, hu, _⟩ | ⟨rfl, hu⟩
  · obtain rfl := Option.some.inj (hd.symm.trans hu)
    exact ⟨by simp [Instr.sameNow, keyV, keyEq], fun h => by simpa [keyEq] using h⟩
  · obtain rfl := Option.some.inj (hd.symm.trans hu)
    exact ⟨by simp only [Instr.sameNow, keyV, keyEq]; rw [keyS_beq], fun h => (keyS_true _ _).1 h⟩
theorem find_m {t : TypeId} {kt vt : Ty} {ag : Bool} (hk : keyOk P t kt = true) {d : TypeDesc} (hd : P.underlying t = some d) (k : kt.T) : ∀ {m : List (kt.T × vt.T)} {es : List MapEntry} (i : Nat), RepM C S w Fz kt vt ag m es →
    (Instr.findNow d (keyV kt k) es i = some none ∧ mfind (keyEq kt) k m = none ∧ (∀ v, mset (keyEq kt) k v m = m ++ [(k, v)]) ∧ mdel (keyEq kt) k m = m) ∨
    ∃ j e v, Instr.findNow d (keyV kt k) es i = some (some (i + j, e.val)) ∧ es[j]? = some e ∧ e.key = keyV kt k ∧ mfind (keyEq kt) k m = some v ∧ RepVal C S w Fz ag vt v e.val ∧
      (∀ e' v', e'.key = keyV kt k → RepVal C S w Fz ag vt v' e'.val → RepM C S w Fz kt vt ag (mset (keyEq kt) k v' m) (es.set j e')) ∧ RepM C S w Fz kt vt ag (mdel (keyEq kt) k m) (es.eraseIdx j)
  | [], es, i, r => by rw [show es = [] from r]; exact .inl ⟨rfl, rfl, fun _ => rfl, rfl⟩
  | p :: m, es, i, ⟨e, es', h1, h2, h3, h4⟩ => by
    have he : e.key = keyV kt p.1 := (key_rep hk).1 h2
    obtain ⟨s1, s2⟩ := sameNow_key hk hd k p.1
    subst h1
    cases hq : keyEq kt k p.1 with
    | true =>
      have hkp := s2 hq
      right
      refine ⟨0, e, p.2, ?_, rfl, by rw [he, hkp], by simp [mfind, hq], h3, fun e' v' h5 h6 => ?_, ?_⟩
      · simp [Instr.findNow, he, s1, hq]
      · simp only [mset, hq, if_true]
        exact ⟨e', es', rfl, (key_rep hk).2 h5, h6, h4⟩
      · simp only [mdel, hq, if_true]
        exact h4
    | false =>
      rcases find_m hk hd k (i + 1) h4 with ⟨f1, f2, f3, f4⟩ | ⟨j, e2, v, f1, f2, f3, f4, f5, f6, f7⟩
      · left
        refine ⟨by simp [Instr.findNow, he, s1, hq, f1], by simp [mfind, hq, f2], fun v => by simp [mset, hq, f3], by simp [mdel, hq, f4]⟩
      · right
        refine ⟨j + 1, e2, v, by simp [Instr.findNow, he, s1, hq, f1]; omega, by simpa using f2, f3, by simp [mfind, hq, f4], f5, fun e' v' h5 h6 => ?_, ?_⟩
        · simp only [mset, hq]
          exact ⟨e, es'.set j e', rfl, h2, h3, f6 e' v' h5 h6⟩
        · simp only [mdel, hq]
          exact ⟨e, es'.eraseIdx j, rfl, h2, h3, f7⟩
/-! maps in whatever order -/
section
variable {K V : Type} {q : K → K → Bool}
theorem mfind_mem (h2 : ∀ a b, q a b = true → a = b) {k : K} {v : V} : ∀ {m : List (K × V)}, mfind q k m = some v → (k, v) ∈ m
  | [], h => by cases h
  | p :: m, h => by
    unfold mfind at h
    split at h
    · rename_i hq
      cases h
      rw [h2 _ _ hq]
      exact .head _
    · exact .tail _ (mfind_mem h2 h)
theorem mfind_none (h1 : ∀ a, q a a = true) {k : K} : ∀ {m : List (K × V)}, mfind q k m = none → ∀ p ∈ m, p.1 ≠ k
  | [], h, p, hp => by cases hp
  | p0 :: m, h, p, hp => by
    unfold mfind at h
    split at h
    · cases h
    · rename_i hq
      rcases List.mem_cons.1 hp with rfl | hp
      · intro e; subst e; exact hq (h1 _)
      · exact mfind_none h1 h p hp
theorem nodup_val {k : K} {v v' : V} : ∀ {m : List (K × V)}, (m.map Prod.fst).Nodup → (k, v) ∈ m → (k, v') ∈ m → v = v'
  | [], _, h, _ => by cases h
  | p :: m, hn, h, h' => by
    rw [List.map_cons, List.nodup_cons] at hn
    rcases List.mem_cons.1 h with e | h
    · rcases List.mem_cons.1 h' with e' | h'
      · rw [← e] at e'; cases e'; rfl
      · exact absurd (List.mem_map.2 ⟨(k, v'), h', by rw [← e]⟩) hn.1
    · rcases List.mem_cons.1 h' with e' | h'
      · exact absurd (List.mem_map.2 ⟨(k, v), h, by rw [← e']⟩) hn.1
      · exact nodup_val hn.2 h h'
theorem mfind_perm (h1 : ∀ a, q a a = true) (h2 : ∀ a b, q a b = true → a = b) {k : K} {m m' : List (K × V)} (hp : m'.Perm m) (hn : (m.map Prod.fst).Nodup) : mfind q k m' = mfind q k m := by
  cases h : mfind q k m with
  | none =>
    cases h' : mfind q k m' with
    | none => rfl
    | some v => exact absurd rfl (mfind_none h1 h _ (hp.mem_iff.1 (mfind_mem h2 h')))
  | some v =>
    have hv := mfind_mem h2 h
    cases h' : mfind q k m' with
    | none => exact absurd rfl (mfind_none h1 h' _ (hp.mem_iff.2 hv))
    | some v' => rw [nodup_val hn (hp.mem_iff.1 (mfind_mem h2 h')) hv]
theorem mdel_filter (h1 : ∀ a, q a a = true) (h2 : ∀ a b, q a b = true → a = b) {k : K} : ∀ {m : List (K × V)}, (m.map Prod.fst).Nodup → mdel q k m = m.filter fun p => !q k p.1
  | [], _ => rfl
  | p :: m, hn => by
    rw [List.map_cons, List.nodup_cons] at hn
    cases hq : q k p.1 with
    | true =>
      have e := h2 _ _ hq
      simp only [mdel, hq, if_true, List.filter_cons, Bool.not_true, Bool.false_eq_true, if_false]
      refine (List.filter_eq_self.2 fun x hx => ?_).symm
      cases hx' : q k x.1 with
      | false => rfl
      | true => exact absurd (List.mem_map.2 ⟨x, hx, (h2 _ _ hx').symm.trans e⟩) hn.1
    | false =>
      simp only [mdel, hq, Bool.false_eq_true, if_false, List.filter_cons, Bool.not_false, if_true]
      rw [mdel_filter h1 h2 hn.2]
theorem mset_perm (h1 : ∀ a, q a a = true) (h2 : ∀ a b, q a b = true → a = b) {k : K} {v : V} : ∀ {m : List (K × V)}, (m.map Prod.fst).Nodup → (mset q k v m).Perm ((k, v) :: m.filter fun p => !q k p.1)
  | [], _ => .refl _
  | p :: m, hn => by
    rw [List.map_cons, List.nodup_cons] at hn
    cases hq : q k p.1 with
    | true =>
      have e := h2 _ _ hq
      simp only [mset, hq, if_true, List.filter_cons, Bool.not_true, Bool.false_eq_true, if_false]
      rw [List.filter_eq_self.2 fun x hx => ?_]
      cases hx' : q k x.1 with
      | false => rfl
      | true => exact absurd (List.mem_map.2 ⟨x, hx, (h2 _ _ hx').symm.trans e⟩) hn.1
    | false =>
      simp only [mset, hq, Bool.false_eq_true, if_false, List.filter_cons, Bool.not_false, if_true]
      exact ((mset_perm h1 h2 hn.2).cons _).trans (.swap _ _ _)
theorem mset_nodup (h1 : ∀ a, q a a = true) (h2 : ∀ a b, q a b = true → a = b) {k : K} {v : V} {m : List (K × V)} (hn : (m.map Prod.fst).Nodup) : ((mset q k v m).map Prod.fst).Nodup := by
  rw [((mset_perm (v := v) h1 h2 (k := k) hn).map Prod.fst).nodup_iff, List.map_cons, List.nodup_cons]
  refine ⟨fun h => ?_, ((List.filter_sublist (l := m)).map _).nodup hn⟩
  obtain ⟨p, hp, rfl⟩ := List.mem_map.1 h
  have := (List.mem_filter.1 hp).2
  rw [h1] at this
  cases this
theorem mdel_nodup {k : K} : ∀ {m : List (K × V)}, (m.map Prod.fst).Nodup → ((mdel q k m).map Prod.fst).Nodup
  | [], h => h
  | p :: m, h => by
    rw [List.map_cons, List.nodup_cons] at h
    unfold mdel
    split
    · exact h.2
    · rw [List.map_cons, List.nodup_cons]
      refine ⟨fun hm => h.1 ?_, mdel_nodup h.2⟩
      obtain ⟨x, hx, e⟩ := List.mem_map.1 hm
      refine List.mem_map.2 ⟨x, ?_, e⟩
      clear hm e h
      induction m with
      | nil => exact hx
      | cons a m ih =>
        unfold mdel at hx
        split at hx
        · exact .tail _ hx
        · rcases List.mem_cons.1 hx with rfl | hx
          · exact .head _
          · exact .tail _ (ih hx)
end
theorem keyEq_ok {t : TypeId} {kt : Ty} (h : keyOk P t kt = true) : (∀ a, keyEq kt a a = true) ∧ ∀ a b, keyEq kt a b = true → a = b := by
  rcases keyOk_und h with ⟨k, k', rfl, hu, _⟩ | ⟨rfl, hu⟩
  · exact ⟨fun a => by simp [keyEq], fun a b h => by simpa [keyEq] using h⟩
  · exact ⟨fun a => (keyS_true _ _).2 rfl, fun a b h => (keyS_true _ _).1 h⟩
theorem RepM.append : ∀ {kt vt : Ty} {ag : Bool} {m m2 : List (kt.T × vt.T)} {es es2 : List MapEntry}, RepM C S w Fz kt vt ag m es → RepM C S w Fz kt vt ag m2 es2 → RepM C S w Fz kt vt ag (m ++ m2) (es ++ es2)
  | kt, vt, ag, [], m2, es, es2, r, r2 => by rw [show es = [] from r]; exact r2
  | kt, vt, ag, p :: m, m2, es, es2, ⟨e, es', h1, h2, h3, h4⟩, r2 => ⟨e, es' ++ es2, by rw [h1]; rfl, h2, h3, RepM.append h4 r2⟩
theorem find_mp {t : TypeId} {kt vt : Ty} {ag : Bool} (hk : keyOk P t kt = true) {d : TypeDesc} (hd : P.underlying t = some d) (k : kt.T) {m : List (kt.T × vt.T)} {es : List MapEntry} (i : Nat) (hr : RepMp C S w Fz kt vt ag m es) :
    (Instr.findNow d (keyV kt k) es i = some none ∧ mfind (keyEq kt) k m = none ∧ (∀ (e : MapEntry) v, e.key = keyV kt k → RepVal C S w Fz ag vt v e.val → RepMp C S w Fz kt vt ag (mset (keyEq kt) k v m) (es ++ [e])) ∧ RepMp C S w Fz kt vt ag (mdel (keyEq kt) k m) es) ∨
    ∃ j e v, Instr.findNow d (keyV kt k) es i = some (some (i + j, e.val)) ∧ es[j]? = some e ∧ e.key = keyV kt k ∧ mfind (keyEq kt) k m = some v ∧ RepVal C S w Fz ag vt v e.val ∧
      (∀ e' v', e'.key = keyV kt k → RepVal C S w Fz ag vt v' e'.val → RepMp C S w Fz kt vt ag (mset (keyEq kt) k v' m) (es.set j e')) ∧ RepMp C S w Fz kt vt ag (mdel (keyEq kt) k m) (es.eraseIdx j) := by
  obtain ⟨m', r, hp, hn⟩ := hr
  obtain ⟨h1, h2⟩ := keyEq_ok (P := P) hk
  have hn' : (m'.map Prod.fst).Nodup := ((hp.map Prod.fst).nodup_iff).2 hn
  have pset : ∀ v, (mset (keyEq kt) k v m').Perm (mset (keyEq kt) k v m) := fun v => (mset_perm h1 h2 hn').trans (((hp.filter _).cons _).trans (mset_perm h1 h2 hn).symm)
  have pdel : (mdel (keyEq kt) k m').Perm (mdel (keyEq kt) k m) := by rw [mdel_filter h1 h2 hn', mdel_filter h1 h2 hn]; exact hp.filter _
  rcases find_m hk hd k i r with ⟨f1, f2, f3, f4⟩ | ⟨j, e, v, f1, f2, f3, f4, f5, f6, f7⟩
  · refine .inl ⟨f1, by rw [← mfind_perm h1 h2 hp hn]; exact f2, fun e v he hv => ⟨m' ++ [(k, v)], r.append ⟨e, [], rfl, (key_rep hk).2 he, hv, rfl⟩, by rw [← f3]; exact pset v, mset_nodup h1 h2 hn⟩, ⟨m', r, by rw [← f4]; rw [f4]; rw [← f4]; exact pdel, mdel_nodup hn⟩⟩
  · exact .inr ⟨j, e, v, f1, f2, f3, by rw [← mfind_perm h1 h2 hp hn]; exact f4, f5, fun e' v' he hv => ⟨_, f6 e' v' he hv, pset v', mset_nodup h1 h2 hn⟩, ⟨_, f7, pdel, mdel_nodup hn⟩⟩
theorem mapT_und {t : TypeId} {p : TypeId × TypeId} (h : mapT P t = some p) : P.underlying t = some (.map p.1 p.2) := by
  unfold mapT at h
  split at h
  · rename_i hu; obtain rfl := Option.some.inj h; exact hu
  · cases h
theorem key_of {t : TypeId} {kt : Ty} (hk : keyOk P t kt = true) {e : Ent} {v : Value} {x : kt.T} (hr : RepE C S w Fz gs e v) (h : keyE kt e = some x) : v = keyV kt x := by
  unfold keyE at h
  split at h
  · split at h
    · rename_i k y e1
      subst e1
      cases h
      exact (key_rep hk).1 hr
    · cases h
  · cases h
theorem key_is {t : TypeId} {kt : Ty} (hk : keyOk P t kt = true) {d : TypeDesc} (hd : P.underlying t = some d) (k : kt.T) : MapKept.IsKey d (keyV kt k) := by
  rcases keyOk_und hk with ⟨k1, k2, rfl, hu, rfl⟩ | ⟨rfl, hu⟩
  · obtain rfl := Option.some.inj (hd.symm.trans hu)
    exact rfl
  · obtain rfl := Option.some.inj (hd.symm.trans hu)
    trivial
theorem lookup_ok (rel : Rel C S w Fz gs tbl) {K : Ent → List Slot → Option R} {r : R} {t : TypeId} {a b : Ent} {A B : Value} {ok : Bool} (hA : RepE C S w Fz gs a A) (hB : RepE C S w Fz gs b B) (h : lookupE P t a b ok tbl K = some r) :
    Did P C S w Fz gs ((Instr.lookup t A B ok).run P w) K r := by
  unfold lookupE at h
  split at h
  · rename_i kT vT hm
    split at h
    · rename_i j
      obtain ⟨g, q, hg, hv, rfl⟩ := hA
      split at h
      · rename_i kt vt ag l hj
        split at h
        · rename_i z0 hz
          split at h
          · rename_i hc
            obtain ⟨hk, hag⟩ := hc
            split at h
            · rename_i k z s2 hke him
              have hB := key_of hk hB hke
              subst hB
              obtain ⟨i, zv, hi, hz0, hzv, hzr⟩ := zero_run hz
              obtain ⟨q', es, clock, p1, p2, p3, p4, _⟩ := rel.slot j _ g hj hg
              rw [hv] at p1
              obtain rfl : q = q' := by simpa using p1
              have hcells : RepLs C S w Fz gs z0.cells zv.cells.toList := by rw [hzv]; exact entOf_cells zv
              obtain ⟨F1, g1, r1, s1, x1, hzx⟩ := implode1_ok gs.length rel hcells him
              obtain ⟨d, hd⟩ : ∃ d, P.underlying kT = some d := by
                rcases keyOk_und hk with ⟨k1, k2, _, hu, _⟩ | ⟨_, hu⟩ <;> exact ⟨_, hu⟩
              have hfx : Fix w Fz w F1 := s1.fix ⟨_, rel⟩
              have fin : ∀ (u : Value) (v : vt.T) (f : Bool), RepVal C S w F1 ag vt v u → (mfind (keyEq kt) k l).getD z = v → (mfind (keyEq kt) k l).isSome = f → (Instr.lookup t (.map (some q)) (keyV kt k) ok).run P w = .ok (if ok then .tuple #[u, .bool f] else u) w →
                  Did P C S w Fz gs ((Instr.lookup t (.map (some q)) (keyV kt k) ok).run P w) K r := by
                intro u v f hu hv1 hf hrun
                rw [hv1, hf] at h
                have hp : RepV C S w F1 g1 (Ent.part (ag, explode vt v)) u := by
                  rcases hu with ⟨rfl, cs, rfl, h2⟩ | ⟨rfl, h2⟩
                  · exact ⟨cs, rfl, explode_rep h2⟩
                  · have h3 := explode_rep (gs := g1) h2
                    obtain ⟨c, cs, e1⟩ : ∃ c cs, explode vt v = c :: cs := by
                      cases he : explode vt v with
                      | nil => rw [he] at h3; cases h3
                      | cons c cs => exact ⟨c, cs, rfl⟩
                    rw [e1] at h3 ⊢
                    obtain ⟨v1, vs1, e2, e3, e4⟩ := h3
                    simp only [List.cons.injEq] at e2
                    obtain ⟨rfl, rfl⟩ := e2
                    cases cs with
                    | nil => exact e3
                    | cons c2 cs => obtain ⟨_, _, e5, _⟩ := e4; cases e5
                refine ⟨_, w, F1, g1, _, s2, hrun, r1, ?_, s1, h⟩
                cases ok with
                | true => exact ⟨[u, .bool f], rfl, u, [.bool f], rfl, hp, .bool f, [], rfl, rfl, rfl⟩
                | false =>
                  simp only [Bool.false_eq_true, if_false]
                  cases hpe : Ent.part (ag, explode vt v) with
                  | one c => rw [hpe] at hp; exact hp
                  | agg cs => rw [hpe] at hp; exact hp
                  | tup ps => unfold Ent.part at hpe; split at hpe <;> cases hpe
              have hund := mapT_und hm
              rcases find_mp hk hd k 0 p4 with ⟨f1, f2, f3, f4⟩ | ⟨jx, e, v, f1, f2, f3, f4, f5, f6, f7⟩
              · refine fin zv z false ?_ (by rw [f2]; rfl) (by rw [f2]; rfl) ?_
                · cases hza : ag with
                  | true =>
                    have : ∃ cs : Array Value, zv = .agg cs := by
                      rw [hag.symm, hzv] at hza
                      unfold entOf at hza
                      split at hza
                      · exact ⟨_, rfl⟩
                      · cases hza
                    obtain ⟨cs, rfl⟩ := this
                    exact .inl ⟨rfl, cs.toList, by simp, hzx⟩
                  | false =>
                    have : zv.cells = #[zv] := by
                      rw [hag.symm, hzv] at hza
                      unfold entOf at hza
                      split at hza
                      · cases hza
                      · rename_i hna
                        cases zv <;> first | rfl | exact absurd rfl (hna _)
                    rw [this] at hzx
                    exact .inr ⟨rfl, hzx⟩
                · have hfk := MapKept.run_findKey (P := P) (w := w) hd f1
                  simp [Instr.lookup, run_underlying hund, getObj_map p3, MapKept.run_checkKey hd (key_is hk hd k), hfk, hzr w]
              · refine fin e.val v true (f5.fix hfx) (by rw [f4]; rfl) (by rw [f4]; rfl) ?_
                have hfk := MapKept.run_findKey (P := P) (w := w) hd f1
                simp [Instr.lookup, run_underlying hund, getObj_map p3, MapKept.run_checkKey hd (key_is hk hd k), hfk]
            · cases h
          · cases h
        · cases h
      · cases h
    · cases h
  · cases h
end
end Go.Proofs.YtnajjhjbkanigaaDoor.Cm
