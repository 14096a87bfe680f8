/- Code as plain functions: operations in any order, what they look at and touch. By this session. -/
import Derived.Test.YtnajjhjbkanigaaDoorCmX
namespace Go.Proofs.YtnajjhjbkanigaaDoor.Cm
open Go
set_option linter.unusedVariables false
set_option linter.unusedSimpArgs false
section
variable {P : Program} {C : Cfg} {R : Type} {O : FuncId → List FSpec}
theorem loadE_foot {t : TypeId} {a : Ent} {s s2 : List Slot} {K : Ent → Option R} (h : ∀ j ∈ footL a, s2[j]? = s[j]?) : loadE P C t a s2 K = loadE P C t a s K := by
  unfold loadE
  split <;> first | rfl | (rw [h _ (by simp [footL])])
theorem indexAddrE_foot {t : TypeId} {a i : Ent} {s s2 : List Slot} {K : Ent → Option R} (h : ∀ j ∈ footL a, s2[j]? = s[j]?) : indexAddrE P t a i s2 K = indexAddrE P t a i s K := by
  unfold indexAddrE
  split <;> first | rfl | (rw [h _ (by simp [footL])])
theorem lenE_foot {t : TypeId} {a : Ent} {s s2 : List Slot} {K : Ent → Option R} (h : ∀ j ∈ footL a, s2[j]? = s[j]?) : lenE P t a s2 K = lenE P t a s K := by
  unfold lenE
  split <;> first | rfl | (rw [h _ (by simp [footL])])
theorem listOf_foot {t : Ty} {l : Lf} {s s2 : List Slot} (h : ∀ j ∈ footL (.one l), s2[j]? = s[j]?) : listOf t l s2 = listOf t l s := by
  unfold listOf
  split <;> first | rfl | (rw [h _ (by simp [footL])])
theorem convE_foot {src dst : TypeId} {a : Ent} {s s2 : List Slot} {K : Ent → Option R} (h : ∀ j ∈ footL a, s2[j]? = s[j]?) : convE P src dst a s2 K = convE P src dst a s K := by
  unfold convE
  split <;> first | rfl | (rw [listOf_foot h])
theorem two_bind {x : Option Ent} {s s1 : List Slot} {e : Ent} (h : (x.bind fun e => two e s) = some (e, s1)) : x = some e ∧ s1 = s := by
  cases x with
  | none => cases h
  | some y => simp only [Option.bind_some, two, Option.some.injEq, Prod.mk.injEq] at h; exact ⟨by rw [h.1], h.2.symm⟩
theorem two_inj {s s1 : List Slot} {e e' : Ent} (h : two e s = some (e', s1)) : e = e' ∧ s1 = s := by
  simp only [two, Option.some.injEq, Prod.mk.injEq] at h; exact ⟨h.1, h.2.symm⟩
theorem reads0 {re : List Nat} {o : Oper} {σ : St} {F : List Nat} {e : Ent} {s1 : List Slot} (hb : ∀ t n ps, o.op ≠ .buildSlice t n ps) (hs : ∀ t x l h m, o.op ≠ .slice t x l h m) (hk : ∀ t m k b, o.op ≠ .lookup t m k b) (hF : rdOf σ o.op = some F) (h : opR0 P C O re o σ = some (e, s1)) : s1 = σ.s ∧ ∀ s2, (∀ j ∈ F, s2[j]? = σ.s[j]?) → opR0 P C O re o ⟨σ.t, s2⟩ = some (e, s2) := by
  have ev : ∀ (s2 : List Slot) (x : Operand), St.ev ⟨σ.t, s2⟩ x = σ.ev x := fun s2 x => by cases x <;> rfl
  unfold opR0 opE at h ⊢
  cases hop : o.op <;> rw [hop] at hF h <;> first
    | (simp [rdOf] at hF; done)
    | skip
  case buildSlice => exact absurd hop (hb _ _ _)
  case slice => exact absurd hop (hs _ _ _ _ _)
  case lookup => exact absurd hop (hk _ _ _ _)
  all_goals simp only [ev] at h ⊢
  case move => obtain ⟨rfl, rfl⟩ := two_inj h; exact ⟨rfl, fun s2 _ => rfl⟩
  case assign => obtain ⟨rfl, rfl⟩ := two_inj h; exact ⟨rfl, fun s2 _ => rfl⟩
  case pick =>
    split at h
    · rename_i bb he
      cases bb with
      | true => obtain ⟨rfl, rfl⟩ := two_inj h; exact ⟨rfl, fun s2 _ => rfl⟩
      | false => obtain ⟨rfl, rfl⟩ := two_inj h; exact ⟨rfl, fun s2 _ => rfl⟩
    · cases h
  case build =>
    rw [buildE_bind _ _ (fun e => two e σ.s)] at h
    obtain ⟨h1, rfl⟩ := two_bind h
    exact ⟨rfl, fun s2 _ => by rw [buildE_bind, h1]; rfl⟩
  case load t a =>
    rw [loadE_bind _ _ _ (fun e => two (unfl (keeps re o.dst) e) σ.s)] at h
    cases hl : loadE P C t (σ.ev a) σ.s some with
    | none => rw [hl] at h; cases h
    | some e0 =>
      rw [hl] at h
      obtain ⟨rfl, rfl⟩ := two_inj h
      simp only [rdOf, Option.some.injEq] at hF
      subst hF
      exact ⟨rfl, fun s2 h2 => by rw [loadE_bind, loadE_foot h2, hl]; rfl⟩
  case nilCheck =>
    split at h <;> first
      | (cases h; done)
      | (obtain ⟨rfl, rfl⟩ := two_inj h; exact ⟨rfl, fun s2 _ => rfl⟩)
      | (split at h <;> first | (cases h; done) | (obtain ⟨rfl, rfl⟩ := two_inj h; exact ⟨rfl, fun s2 _ => rfl⟩))
  case binOp =>
    rw [binE_bind _ _ _ _ _ _ (fun e => two e σ.s)] at h
    obtain ⟨h1, rfl⟩ := two_bind h
    exact ⟨rfl, fun s2 _ => by rw [binE_bind, h1]; rfl⟩
  case unOp =>
    rw [unE_bind _ _ (fun e => two e σ.s)] at h
    obtain ⟨h1, rfl⟩ := two_bind h
    exact ⟨rfl, fun s2 _ => by rw [unE_bind, h1]; rfl⟩
  case convert =>
    rw [convE_bind _ _ _ _ (fun e => two e σ.s)] at h
    obtain ⟨h1, rfl⟩ := two_bind h
    simp only [rdOf, Option.some.injEq] at hF
    subst hF
    exact ⟨rfl, fun s2 h2 => by rw [convE_bind, convE_foot h2, h1]; rfl⟩
  case fieldAddr =>
    split at h
    · split at h
      · split at h <;> first | (cases h; done) | (obtain ⟨rfl, rfl⟩ := two_inj h; exact ⟨rfl, fun s2 _ => rfl⟩)
      · cases h
    · cases h
  case field =>
    split at h
    · split at h <;> first | (cases h; done) | (obtain ⟨rfl, rfl⟩ := two_inj h; exact ⟨rfl, fun s2 _ => rfl⟩)
    · cases h
  case indexAddr =>
    rw [indexAddrE_bind _ _ _ _ (fun e => two e σ.s)] at h
    obtain ⟨h1, rfl⟩ := two_bind h
    simp only [rdOf, Option.some.injEq] at hF
    subst hF
    exact ⟨rfl, fun s2 h2 => by rw [indexAddrE_bind, indexAddrE_foot h2, h1]; rfl⟩
  case index =>
    split at h
    · split at h
      · rename_i hc; obtain ⟨rfl, rfl⟩ := two_inj h; exact ⟨rfl, fun s2 _ => by rw [if_pos hc]; rfl⟩
      · cases h
    · cases h
  case typeAssert =>
    split at h
    · split at h
      · rename_i hc
        split at h
        · rename_i hk; obtain ⟨rfl, rfl⟩ := two_inj h; exact ⟨rfl, fun s2 _ => by rw [if_pos hc, if_pos hk]; rfl⟩
        · rename_i hk
          split at h
          · rename_i x hx; obtain ⟨rfl, rfl⟩ := two_inj h; exact ⟨rfl, fun s2 _ => by rw [if_pos hc, if_neg hk]; simp [two, hx]⟩
          · cases h
      · cases h
    · cases h
  case extract =>
    split at h
    · split at h <;> first | (cases h; done) | (obtain ⟨rfl, rfl⟩ := two_inj h; exact ⟨rfl, fun s2 _ => rfl⟩)
    · cases h
  case call c =>
    have hm : ∀ s2, c.args.toList.map (St.ev ⟨σ.t, s2⟩) = c.args.toList.map σ.ev := fun s2 => List.map_congr_left fun x _ => ev s2 x
    unfold callOpE at h ⊢
    simp only [ev, hm] at h ⊢
    simp only [rdOf] at hF
    split at hF
    · rename_i hc
      obtain rfl := Option.some.inj hF
      rw [hc] at h ⊢
      simp only at h ⊢
      split at h
      · rename_i x t hx ht
        rw [lenE_bind _ _ _ (fun e => two e σ.s)] at h
        obtain ⟨h1, rfl⟩ := two_bind h
        exact ⟨rfl, fun s2 h2 => by rw [lenE_bind, lenE_foot (fun j hj => h2 j (by rw [hx]; simpa using hj)), h1]; rfl⟩
      · cases h
    · rename_i hc
      rw [hc] at h ⊢
      simp only at h ⊢
      rw [minmaxE_bind _ _ (fun e => two e σ.s)] at h
      obtain ⟨h1, rfl⟩ := two_bind h
      exact ⟨rfl, fun s2 _ => by rw [minmaxE_bind, h1]; rfl⟩
    · rename_i hc
      rw [hc] at h ⊢
      simp only at h ⊢
      rw [minmaxE_bind _ _ (fun e => two e σ.s)] at h
      obtain ⟨h1, rfl⟩ := two_bind h
      exact ⟨rfl, fun s2 _ => by rw [minmaxE_bind, h1]; rfl⟩
    · cases hF

/-! ### slots that change are seen by their kind -/
def Dn (s s' : List Slot) : Prop := ∀ i, i < s.length → s'[i]? = s[i]? ∨ (kindS s[i]? < kindS s'[i]? ∧ kindS s'[i]? ≤ 2)
theorem Dn.refl (s : List Slot) : Dn s s := fun i h => .inl rfl
theorem Dn.lt {s s' : List Slot} (h : Dn s s') {i : Nat} (hi : i < s.length) : i < s'.length := by
  rcases h i hi with h | ⟨_, h⟩
  · rw [List.getElem?_eq_getElem hi] at h; exact (List.getElem?_eq_some_iff.1 h).1
  · rcases Nat.lt_or_ge i s'.length with h1 | h1
    · exact h1
    · rw [List.getElem?_eq_none h1] at h; simp [kindS] at h
theorem Dn.trans {s s' s2 : List Slot} (h : Dn s s') (h' : Dn s' s2) : Dn s s2 := by
  intro i hi
  rcases h i hi with h1 | ⟨h1, h2⟩ <;> rcases h' i (h.lt hi) with h3 | ⟨h3, h4⟩
  · exact .inl (h3.trans h1)
  · rw [h1] at h3; exact .inr ⟨h3, h4⟩
  · rw [h3]; exact .inr ⟨h1, h2⟩
  · exact .inr ⟨Nat.lt_trans h1 h3, h4⟩
theorem Dn.app (s r : List Slot) : Dn s (s ++ r) := fun i hi => .inl (List.getElem?_append_left hi)
theorem Dn.set {s : List Slot} {j : Nat} {x : Slot} (h : kindS s[j]? < kindS (some x)) (h2 : kindS (some x) ≤ 2) : Dn s (s.set j x) := by
  intro i hi
  rw [List.getElem?_set]
  split
  · rename_i hij
    subst hij
    rw [if_pos hi]
    exact .inr ⟨h, h2⟩
  · exact .inl rfl
theorem asT0_dn {t : Ty} {l : Lf} {s s' : List Slot} {x : t.T} (h : asT0 t l s = some (x, s')) : Dn s s' := by
  unfold asT0 at h
  split at h
  · split at h
    · obtain ⟨-, rfl⟩ := Prod.mk.inj (Option.some.inj h); exact .refl _
    · cases h
  · obtain ⟨-, rfl⟩ := Prod.mk.inj (Option.some.inj h); exact .refl _
  · split at h
    · rename_i hj
      split at h
      · obtain ⟨-, rfl⟩ := Prod.mk.inj (Option.some.inj h); exact .set (by rw [hj]; simp [kindS]) (by simp [kindS])
      · cases h
    · split at h
      · obtain ⟨-, rfl⟩ := Prod.mk.inj (Option.some.inj h); exact .refl _
      · cases h
    · cases h
  · obtain ⟨-, rfl⟩ := Prod.mk.inj (Option.some.inj h); exact .refl _
  · split at h
    · rename_i hj
      split at h
      · obtain ⟨-, rfl⟩ := Prod.mk.inj (Option.some.inj h); exact .set (by rw [hj]; simp [kindS]) (by simp [kindS])
      · cases h
    · split at h
      · obtain ⟨-, rfl⟩ := Prod.mk.inj (Option.some.inj h); exact .refl _
      · cases h
    · cases h
  · obtain ⟨-, rfl⟩ := Prod.mk.inj (Option.some.inj h); exact .refl _
  · cases h
theorem asT_dn {t : Ty} {l : Lf} {s s' : List Slot} {x : t.T} (h : asT t l s = some (x, s')) : Dn s s' := by
  cases t with
  | exs e =>
    simp only [asT] at h
    split at h
    · rename_i y s2 h2
      obtain ⟨rfl, rfl⟩ := Prod.mk.inj (Option.some.inj h)
      exact asT0_dn h2
    · cases h
  | _ => exact asT0_dn h
theorem implode_dn : ∀ {t : Ty} {cs cs' : List Lf} {s s' : List Slot} {x : t.T}, implode t cs s = some (x, cs', s') → Dn s s'
  | .unit, cs, cs', s, s', x, h => by
    simp only [implode, Option.some.injEq, Prod.mk.injEq] at h
    rw [← h.2.2]; exact .refl _
  | .pair a b, cs, cs', s, s', x, h => by
    simp only [implode] at h
    split at h
    · rename_i x1 c1 s1 h1
      split at h
      · rename_i x2 c2 s2 h2
        simp only [Option.some.injEq, Prod.mk.injEq] at h
        rw [← h.2.2]
        exact (implode_dn h1).trans (implode_dn h2)
      · cases h
    · cases h
  | .int k, [], cs', s, s', x, h => by simp [implode] at h
  | .bool, [], cs', s, s', x, h => by simp [implode] at h
  | .str, [], cs', s, s', x, h => by simp [implode] at h
  | .err, [], cs', s, s', x, h => by simp [implode] at h
  | .atp, [], cs', s, s', x, h => by simp [implode] at h
  | .slice e t, [], cs', s, s', x, h => by simp [implode] at h
  | .fl e t, [], cs', s, s', x, h => by simp [implode] at h
  | .exs e, [], cs', s, s', x, h => by simp [implode] at h
  | .int k, c :: cs, cs', s, s', x, h => by
    simp only [implode] at h
    split at h
    · rename_i h1; simp only [Option.some.injEq, Prod.mk.injEq] at h; rw [← h.2.2]; exact asT_dn h1
    · cases h
  | .bool, c :: cs, cs', s, s', x, h => by
    simp only [implode] at h
    split at h
    · rename_i h1; simp only [Option.some.injEq, Prod.mk.injEq] at h; rw [← h.2.2]; exact asT_dn h1
    · cases h
  | .str, c :: cs, cs', s, s', x, h => by
    simp only [implode] at h
    split at h
    · rename_i h1; simp only [Option.some.injEq, Prod.mk.injEq] at h; rw [← h.2.2]; exact asT_dn h1
    · cases h
  | .err, c :: cs, cs', s, s', x, h => by
    simp only [implode] at h
    split at h
    · rename_i h1; simp only [Option.some.injEq, Prod.mk.injEq] at h; rw [← h.2.2]; exact asT_dn h1
    · cases h
  | .atp, c :: cs, cs', s, s', x, h => by
    simp only [implode] at h
    split at h
    · rename_i h1; simp only [Option.some.injEq, Prod.mk.injEq] at h; rw [← h.2.2]; exact asT_dn h1
    · cases h
  | .slice e t, c :: cs, cs', s, s', x, h => by
    simp only [implode] at h
    split at h
    · rename_i h1; simp only [Option.some.injEq, Prod.mk.injEq] at h; rw [← h.2.2]; exact asT_dn h1
    · cases h
  | .fl e t, c :: cs, cs', s, s', x, h => by
    simp only [implode] at h
    split at h
    · rename_i h1; simp only [Option.some.injEq, Prod.mk.injEq] at h; rw [← h.2.2]; exact asT_dn h1
    · cases h
  | .exs e, c :: cs, cs', s, s', x, h => by
    simp only [implode] at h
    split at h
    · rename_i h1; simp only [Option.some.injEq, Prod.mk.injEq] at h; rw [← h.2.2]; exact asT_dn h1
    · cases h
theorem implode1_dn {t : Ty} {cs : List Lf} {s s' : List Slot} {x : t.T} (h : implode1 t cs s = some (x, s')) : Dn s s' := by
  unfold implode1 at h
  split at h
  · rename_i h1; simp only [Option.some.injEq, Prod.mk.injEq] at h; rw [← h.2]; exact implode_dn h1
  · cases h
theorem implodes_dn {t : Ty} : ∀ {l : List (List Lf)} {s s' : List Slot} {x : List t.T}, implodes t l s = some (x, s') → Dn s s'
  | [], s, s', x, h => by simp only [implodes, Option.some.injEq, Prod.mk.injEq] at h; rw [← h.2]; exact .refl _
  | c :: r, s, s', x, h => by
    simp only [implodes] at h
    split at h
    · rename_i h1
      split at h
      · rename_i h2; simp only [Option.some.injEq, Prod.mk.injEq] at h; rw [← h.2]; exact (implode1_dn h1).trans (implodes_dn h2)
      · cases h
    · cases h
theorem link_tbl {c c' : CS} {j s : Nat} (h : c.link j s = some c') : c'.tbl = c.tbl := by
  unfold CS.link at h
  split at h
  · split at h
    · obtain rfl := Option.some.inj h; rfl
    · cases h
  · split at h
    · obtain rfl := Option.some.inj h; rfl
    · cases h
theorem links_tbl : ∀ {js ss : List Nat} {c c' : CS}, c.links js ss = some c' → c'.tbl = c.tbl
  | [], [], c, c', h => by obtain rfl := Option.some.inj h; rfl
  | j :: js, s :: ss, c, c', h => by
    simp only [CS.links] at h
    split at h
    · rename_i h1; exact (links_tbl h).trans (link_tbl h1)
    · cases h
  | [], s :: ss, c, c', h => by cases h
  | j :: js, [], c, c', h => by cases h
theorem confV_dn {k : Ty} {l : Lf} {c c' : CS} {x : k.T} (h : confV k l c = some (x, c')) : Dn c.tbl c'.tbl := by
  unfold confV at h
  split at h
  · split at h
    · cases h
    · split at h
      · rename_i h1; obtain ⟨-, rfl⟩ := Prod.mk.inj (Option.some.inj h); exact asT_dn h1
      · cases h
  · split at h
    · obtain ⟨-, rfl⟩ := Prod.mk.inj (Option.some.inj h); exact .refl _
    · cases h
theorem move_dn {c c' : CS} {sh : List SSh} {j s : Nat} (h : c.move sh j s = some c') : Dn c.tbl c'.tbl := by
  unfold CS.move at h
  split at h
  · rename_i h1
    split at h
    · obtain rfl := Option.some.inj h
      exact (Dn.set (by rw [h1]; simp [kindS]) (by simp [kindS])).trans (.app _ _)
    · cases h
  · cases h
theorem confL_dn {sh : List SSh} {a : LSh} {l : Lf} {c c' : CS} {x : a.T} (h : confL sh a l c = some (x, c')) : Dn c.tbl c'.tbl := by
  unfold confL at h
  split at h
  · exact confV_dn h
  · obtain ⟨-, rfl⟩ := Prod.mk.inj (Option.some.inj h); exact .refl _
  · split at h
    · obtain ⟨-, rfl⟩ := Prod.mk.inj (Option.some.inj h); exact .refl _
    · cases h
  · split at h
    · rename_i h1; obtain ⟨-, rfl⟩ := Prod.mk.inj (Option.some.inj h); rw [link_tbl h1]; exact .refl _
    · simp only [Option.map_eq_some_iff] at h
      obtain ⟨c1, h1, h2⟩ := h
      obtain ⟨-, rfl⟩ := Prod.mk.inj h2
      exact move_dn h1
  · split at h
    · simp only [Option.map_eq_some_iff] at h
      obtain ⟨c1, h1, h2⟩ := h
      obtain ⟨-, rfl⟩ := Prod.mk.inj h2
      rw [link_tbl h1]; exact .app _ _
    · cases h
  · split at h
    · simp only [Option.map_eq_some_iff] at h
      obtain ⟨c1, h1, h2⟩ := h
      obtain ⟨-, rfl⟩ := Prod.mk.inj h2
      rw [link_tbl h1]; exact .refl _
    · cases h
  · split at h
    · simp only [Option.map_eq_some_iff] at h
      obtain ⟨c1, h1, h2⟩ := h
      obtain ⟨-, rfl⟩ := Prod.mk.inj h2
      rw [link_tbl h1]; exact .refl _
    · cases h
  · split at h
    · split at h
      · obtain ⟨-, rfl⟩ := Prod.mk.inj (Option.some.inj h); exact .refl _
      · cases h
    · cases h
  · split at h
    · simp only [Option.map_eq_some_iff] at h
      obtain ⟨c1, h1, h2⟩ := h
      obtain ⟨-, rfl⟩ := Prod.mk.inj h2
      rw [link_tbl h1]; exact .refl _
    · cases h
  · obtain ⟨-, rfl⟩ := Prod.mk.inj (Option.some.inj h); exact .refl _
  · simp only [Option.map_eq_some_iff] at h
    obtain ⟨c1, h1, h2⟩ := h
    obtain ⟨-, rfl⟩ := Prod.mk.inj h2
    rw [link_tbl h1]; exact .refl _
  · obtain ⟨-, rfl⟩ := Prod.mk.inj (Option.some.inj h); exact .refl _
  · split at h
    · simp only [Option.map_eq_some_iff] at h
      obtain ⟨c1, h1, h2⟩ := h
      obtain ⟨-, rfl⟩ := Prod.mk.inj h2
      rw [links_tbl h1]; exact .refl _
    · cases h
  · obtain ⟨-, rfl⟩ := Prod.mk.inj (Option.some.inj h); exact .refl _
  · obtain ⟨-, rfl⟩ := Prod.mk.inj (Option.some.inj h); exact .refl _
  · cases h
theorem confLs_dn {sh : List SSh} : ∀ {hs : List LSh} {ls : List Lf} {c c' : CS} {x : LShs.T hs}, confLs sh hs ls c = some (x, c') → Dn c.tbl c'.tbl
  | [], [], c, c', x, h => by simp only [confLs, Option.some.injEq, Prod.mk.injEq] at h; rw [← h.2]; exact .refl _
  | a :: r, l :: ls, c, c', x, h => by
    simp only [confLs] at h
    split at h
    · rename_i h1
      split at h
      · rename_i h2; simp only [Option.some.injEq, Prod.mk.injEq] at h; rw [← h.2]; exact (confL_dn h1).trans (confLs_dn h2)
      · cases h
    · cases h
  | [], l :: ls, c, c', x, h => by cases h
  | a :: r, [], c, c', x, h => by cases h
theorem confPs_dn {sh : List SSh} : ∀ {hs : List (Bool × List LSh)} {ls : List (Bool × List Lf)} {c c' : CS} {x : PSh.T hs}, confPs sh hs ls c = some (x, c') → Dn c.tbl c'.tbl
  | [], [], c, c', x, h => by simp only [confPs, Option.some.injEq, Prod.mk.injEq] at h; rw [← h.2]; exact .refl _
  | a :: r, l :: ls, c, c', x, h => by
    simp only [confPs] at h
    split at h
    · split at h
      · rename_i h1
        split at h
        · rename_i h2; simp only [Option.some.injEq, Prod.mk.injEq] at h; rw [← h.2]; exact (confLs_dn h1).trans (confPs_dn h2)
        · cases h
      · cases h
    · cases h
  | [], l :: ls, c, c', x, h => by cases h
  | a :: r, [], c, c', x, h => by cases h
theorem confE_dn {sh : List SSh} {a : ESh} {e : Ent} {c c' : CS} {x : a.T} (h : confE sh a e c = some (x, c')) : Dn c.tbl c'.tbl := by
  unfold confE at h
  split at h
  · obtain ⟨-, rfl⟩ := Prod.mk.inj (Option.some.inj h); exact .refl _
  · exact confL_dn h
  · exact confLs_dn h
  · exact confPs_dn h
  · cases h
theorem confEs_dn {sh : List SSh} : ∀ {hs : List ESh} {ls : List Ent} {c c' : CS} {x : EShs.T hs}, confEs sh hs ls c = some (x, c') → Dn c.tbl c'.tbl
  | [], [], c, c', x, h => by simp only [confEs, Option.some.injEq, Prod.mk.injEq] at h; rw [← h.2]; exact .refl _
  | a :: r, l :: ls, c, c', x, h => by
    simp only [confEs] at h
    split at h
    · rename_i h1
      split at h
      · rename_i h2; simp only [Option.some.injEq, Prod.mk.injEq] at h; rw [← h.2]; exact (confE_dn h1).trans (confEs_dn h2)
      · cases h
    · cases h
  | [], l :: ls, c, c', x, h => by cases h
  | a :: r, [], c, c', x, h => by cases h
theorem confS_dn {sh : List SSh} {a : SSh} {e : Slot} {c c' : CS} {x : a.T} (h : confS sh a e c = some (x, c')) : Dn c.tbl c'.tbl := by
  unfold confS at h
  split at h
  · obtain ⟨-, rfl⟩ := Prod.mk.inj (Option.some.inj h); exact .refl _
  · split at h
    · obtain ⟨-, rfl⟩ := Prod.mk.inj (Option.some.inj h); exact .refl _
    · cases h
  · split at h
    · obtain ⟨-, rfl⟩ := Prod.mk.inj (Option.some.inj h); exact .refl _
    · cases h
  · split at h
    · exact confLs_dn h
    · cases h
  · split at h
    · obtain ⟨-, rfl⟩ := Prod.mk.inj (Option.some.inj h); exact .refl _
    · cases h
  · cases h
theorem confSs_dn {sh : List SSh} : ∀ {hs : List SSh} {j : Nat} {c c' : CS} {x : SShs.T hs}, confSs sh hs j c = some (x, c') → Dn c.tbl c'.tbl
  | [], j, c, c', x, h => by
    simp only [confSs] at h
    split at h
    · simp only [Option.some.injEq, Prod.mk.injEq] at h; rw [← h.2]; exact .refl _
    · cases h
  | a :: r, j, c, c', x, h => by
    simp only [confSs] at h
    split at h
    · split at h
      · rename_i h1
        split at h
        · rename_i h2; simp only [Option.some.injEq, Prod.mk.injEq] at h; rw [← h.2]; exact (confS_dn h1).trans (confSs_dn h2)
        · cases h
      · cases h
    · cases h
theorem conf_dn {h : Sh} {es : List Ent} {m : List Nat} {tbl : List Slot} {x : h.T} {c : CS} (hc : conf h es m tbl = some (x, c)) : Dn tbl c.tbl := by
  unfold conf at hc
  split at hc
  · rename_i h1
    split at hc
    · rename_i h2; simp only [Option.some.injEq, Prod.mk.injEq] at hc; rw [← hc.2]; exact Dn.trans (s' := _) (confEs_dn h1) (confSs_dn h2)
    · cases hc
  · cases hc
theorem putBack_get {α : Type} : ∀ {m : List Nat} {r tbl : List α} {j : Nat}, j < tbl.length → j ∉ m → (putBack tbl m r)[j]? = tbl[j]?
  | [], [], tbl, j, h, hm => by simp [putBack]
  | [], x :: r, tbl, j, h, hm => by simp only [putBack]; exact List.getElem?_append_left h
  | i :: m, [], tbl, j, h, hm => by simp [putBack]
  | i :: m, x :: r, tbl, j, h, hm => by
    simp only [putBack]
    rw [putBack_get (by simpa using h) (fun hj => hm (List.mem_cons_of_mem _ hj)), List.getElem?_set]
    split
    · rename_i e; subst e; exact absurd (List.mem_cons_self) hm
    · rfl
theorem kdiff_of {s s' : List Slot} (h : Dn s s') {j : Nat} (hj : j < s.length) (hk : j ∉ kdiff s s') : s'[j]? = s[j]? := by
  rcases h j hj with h | ⟨h, _⟩
  · exact h
  · exact absurd (by simp only [kdiff, List.mem_filter, List.mem_range]; exact ⟨hj, by simp; omega⟩) hk
/-- Behind a call: what was lent may be another one. -/
theorem tryS_dn {args : List Ent} {s s' : List Slot} {e : Ent} : ∀ {l : List FSpec}, tryS args s two l = some (e, s') → ∃ t, Dn s t ∧ ∀ j, j < s.length → j ∉ tryM args s l → s'[j]? = t[j]?
  | [], h => by cases h
  | sp :: r, h => by
    simp only [tryS] at h
    simp only [tryM]
    split at h
    · rename_i x c hc
      split at h
      · rw [decS_eq] at h
        split at h
        · obtain ⟨-, rfl⟩ := two_inj h
          exact ⟨c.tbl, conf_dn hc, fun j hj hm => putBack_get ((conf_dn hc).lt hj) hm⟩
        · cases h
      · cases h
    · exact tryS_dn h
theorem Dn.del {s s' t : List Slot} {j : Nat} (h : Dn s t) (hj : j < s.length) (h2 : s'[j]? = t[j]?) (hk : j ∉ kdiff s s') : s'[j]? = s[j]? := by
  rcases h j hj with h | ⟨h, _⟩
  · exact h2.trans h
  · rw [← h2] at h
    exact absurd (by simp only [kdiff, List.mem_filter, List.mem_range]; exact ⟨hj, by simp; omega⟩) hk
theorem cutB_two_inv {n : Int} {lo hi : Option Ent} {E : Int → Int → Ent} {S : Int → Int → List Slot} {e : Ent} {s' : List Slot} (h : (cutB n lo hi fun a b => two (E a b) (S a b)) = some (e, s')) : ∃ a b, s' = S a b := by
  unfold cutB at h
  split at h
  · exact ⟨_, _, (two_inj h).2⟩
  · split at h
    · exact ⟨_, _, (two_inj h).2⟩
    · cases h
  · split at h
    · exact ⟨_, _, (two_inj h).2⟩
    · cases h
  · split at h
    · exact ⟨_, _, (two_inj h).2⟩
    · cases h
  · cases h
theorem makeSliceE_dn {t : TypeId} {l c : Ent} {s s' : List Slot} {e : Ent} (h : makeSliceE P C t l c s two = some (e, s')) : Dn s s' := by
  unfold makeSliceE at h
  split at h
  · split at h
    · split at h
      · rename_i him
        split at h
        · split at h
          · obtain ⟨-, rfl⟩ := two_inj h
            exact (implode1_dn him).trans (.app _ _)
          · cases h
        · cases h
      · cases h
    · cases h
  · cases h
theorem appendE_dn {st ut : TypeId} {x y : Ent} {s s' : List Slot} {e : Ent} (h : appendE P C st ut x y s two = some (e, s')) : Dn s s' := by
  unfold appendE at h
  split at h
  · split at h
    · rename_i hb
      split at h
      · split at h
        · split at h
          · split at h
            · cases h
            obtain ⟨-, rfl⟩ := two_inj h
            refine Dn.trans (s' := _) ?_ (.app _ _)
            split
            · simp only [baseT] at hb
              split at hb
              · rename_i hj
                exact .set (by rw [hj]; simp [kindS]) (by simp [kindS])
              · cases hb
            · exact .refl _
          · cases h
        · cases h
      · cases h
    · cases h
  · cases h
theorem buildSliceE_dn {t : TypeId} {n : Nat} {ps : List (Nat × Ent)} {s s' : List Slot} {e : Ent} (h : buildSliceE P C t n ps s two = some (e, s')) : Dn s s' := by
  unfold buildSliceE at h
  split at h
  · split at h
    · split at h
      · split at h
        · split at h
          · rename_i hi
            split at h
            · obtain ⟨-, rfl⟩ := two_inj h; exact (implodes_dn hi).trans (.app _ _)
            · cases h
          · cases h
        · obtain ⟨-, rfl⟩ := two_inj h; exact .app _ _
      · cases h
    · cases h
  · cases h
theorem sliceE_dn {re : Bool} {xt : TypeId} {x : Ent} {lo hi : Option Ent} {s s' : List Slot} {e : Ent} (h : sliceE P re xt x lo hi s two = some (e, s')) : Dn s s' := by
  unfold sliceE at h
  split at h
  · obtain ⟨_, _, rfl⟩ := cutB_two_inv (S := fun _ _ => s) h; exact .refl _
  · split at h
    · obtain ⟨_, _, rfl⟩ := cutB_two_inv (S := fun _ _ => s) h; exact .refl _
    · cases h
  · split at h
    · obtain ⟨_, _, rfl⟩ := cutB_two_inv (S := fun _ _ => s) h; exact .refl _
    · cases h
  · split at h
    · rename_i hj
      split at h
      · split at h
        · obtain ⟨_, _, rfl⟩ := cutB_two_inv h; exact (Dn.set (by rw [hj]; simp [kindS]) (by simp [kindS])).trans (.app _ _)
        · obtain ⟨_, _, rfl⟩ := cutB_two_inv (S := fun _ _ => s.set _ _) h; exact .set (by rw [hj]; simp [kindS]) (by simp [kindS])
      · cases h
    · split at h
      · obtain ⟨_, _, rfl⟩ := cutB_two_inv (S := fun _ _ => s) h; exact .refl _
      · cases h
    · cases h
  · cases h
/-- What an operation does not touch stays. -/
theorem touch0 {re : List Nat} {o : Oper} (ho : (!isW o.op || okWr o.op) = true) {σ : St} {e : Ent} {s' : List Slot} (hw : rdOf σ o.op = none) (h : opR0 P C O re o σ = some (e, s')) : ∀ j, j < σ.s.length → j ∉ callM O o.op σ ++ kdiff σ.s s' → s'[j]? = σ.s[j]? := by
  intro j hj hm
  simp only [List.mem_append, not_or] at hm
  have dn : Dn σ.s s' → s'[j]? = σ.s[j]? := fun d => kdiff_of d hj hm.2
  have hm1 := hm.1
  unfold opR0 opE at h
  cases hop : o.op <;> rw [hop] at hw h ho hm1 <;> first
    | (exfalso; revert hw; simp [rdOf]; done)
    | (exfalso; revert ho; simp [isW, rdOf, okWr]; done)
    | skip
  case alloc =>
    simp only at h
    split at h
    · obtain ⟨-, rfl⟩ := two_inj h; exact dn (.app _ _)
    · cases h
  case box =>
    simp only at h
    split at h
    · obtain ⟨-, rfl⟩ := two_inj h; exact dn (.app _ _)
    · cases h
  case makeSlice => exact dn (makeSliceE_dn h)
  case store t a v =>
    have hma : j ∉ footL (σ.ev a) := hm1
    simp only at h
    unfold storeE at h
    split at h
    · split at h
      · rename_i j' off ha
        have hne : j' ≠ j := fun e => hma (by rw [ha, e]; simp [footL])
        split at h
        · split at h
          · obtain ⟨-, rfl⟩ := two_inj h
            exact List.getElem?_set_ne hne
          · cases h
        · cases h
      · rename_i j' sz i off ha
        have hne : j' ≠ j := fun e => hma (by rw [ha, e]; simp [footL])
        split at h
        · split at h
          · split at h
            · rename_i him
              split at h
              · split at h
                · obtain ⟨-, rfl⟩ := two_inj h
                  exact (implode1_dn him).del hj (List.getElem?_set_ne hne) hm.2
                · cases h
              · cases h
            · cases h
          · cases h
        · cases h
      · cases h
    · cases h
  case mapUpdate t m k v =>
    have hma : j ∉ footL (σ.ev m) := hm1
    simp only at h
    unfold mapUpdateE at h
    split at h
    · split at h
      · rename_i j' hm'
        have hne : j' ≠ j := fun e => hma (by rw [hm', e]; simp [footL])
        split at h
        · split at h
          · split at h
            · rename_i him
              split at h
              · split at h
                · obtain ⟨-, rfl⟩ := two_inj h
                  exact (implode1_dn him).del hj (List.getElem?_set_ne hne) hm.2
                · cases h
              · cases h
            · cases h
          · cases h
        · cases h
      · cases h
    · cases h
  case makeInterface =>
    simp only at h
    split at h
    · split at h
      · rename_i j' _ _ _ _ _ hjj
        split at h
        ·
          obtain ⟨-, rfl⟩ := two_inj h
          rw [List.getElem?_set]
          split
          · rename_i he
            subst he
            exfalso
            refine hm.2 ?_
            simp only [kdiff, List.mem_filter, List.mem_range]
            refine ⟨hj, ?_⟩
            rw [hjj, List.getElem?_set, if_pos rfl, if_pos hj]
            rfl
          · rfl
        · cases h
      · cases h
    · cases h
  case call c =>
    simp only [callOpE] at h
    simp only [callM] at hm1
    split at h
    · rename_i f hc
      rw [hc] at hm1
      simp only at hm1
      unfold callE at h
      split at h
      · rename_i g caps hf
        rw [hf] at hm1
        obtain ⟨t, h1, h2⟩ := tryS_dn h
        exact h1.del hj (h2 j hj hm1) hm.2
      · cases h
    · rename_i hc; exfalso; revert hw; simp [rdOf, hc]
    · split at h
      · exact dn (appendE_dn h)
      · cases h
    · rename_i hc; exfalso; revert ho; simp [isW, rdOf, okWr, hc]
    · rename_i hc; exfalso; revert ho; simp [isW, rdOf, okWr, hc]
    · rename_i hc; exfalso; revert hw; simp [rdOf, hc]
    · rename_i hc; exfalso; revert hw; simp [rdOf, hc]
    · cases h
theorem touch {re : List Nat} {o : Oper} (ho : (!isW o.op || okWr o.op) = true) {σ : St} {e : Ent} {s' : List Slot} (hw : rdOf σ o.op = none) (h : opR P C O re o σ = some (e, s')) : ∀ j, j < σ.s.length → j ∉ callM O o.op σ ++ kdiff σ.s s' → s'[j]? = σ.s[j]? := by
  unfold opR opD at h
  split at h
  · rename_i hop; rw [hop] at hw; simp [rdOf] at hw
  · rename_i hop; rw [hop] at hw; simp [rdOf] at hw
  · cases h
  · rename_i hop; rw [hop] at hw; simp [rdOf] at hw
  · exact touch0 ho hw h
theorem lookupD_foot {t : TypeId} {m k : Ent} {ok : Bool} {s s2 : List Slot} {K : Ent → Option R} (h : ∀ j ∈ footL m, s2[j]? = s[j]?) : lookupD P t m k ok s2 K = lookupD P t m k ok s K := by
  unfold lookupD
  split
  · split
    · rw [h _ (by simp [footL])]
    · rfl
  · rfl
theorem sliceD_foot {t : TypeId} {x : Ent} {lo hi : Option Ent} {s s2 : List Slot} {K : Ent → Option R} (h : ∀ j ∈ footL x, s2[j]? = s[j]?) : sliceD P t x lo hi s2 K = sliceD P t x lo hi s K := by
  unfold sliceD
  split
  · rename_i j
    have hj2 := h j (by simp [footL])
    rw [hj2]
    split
    · rename_i hj
      have h' := hj2.trans hj
      simp only [sliceE]
      cases P.underlying t with
      | none => rfl
      | some d => cases d <;> first | rfl | simp only [h', hj]
    · rfl
  · rename_i hne
    unfold sliceE
    split <;> first
      | rfl
      | exact absurd rfl (hne _)
theorem reads {re : List Nat} {o : Oper} {σ : St} {F : List Nat} {e : Ent} {s1 : List Slot} (hF : rdOf σ o.op = some F) (h : opR P C O re o σ = some (e, s1)) : s1 = σ.s ∧ ∀ s2, (∀ j ∈ F, s2[j]? = σ.s[j]?) → opR P C O re o ⟨σ.t, s2⟩ = some (e, s2) := by
  have ev : ∀ (s2 : List Slot) (x : Operand), St.ev ⟨σ.t, s2⟩ x = σ.ev x := fun s2 x => by cases x <;> rfl
  have evm : ∀ (s2 : List Slot) (x : Option Operand), x.map (St.ev ⟨σ.t, s2⟩) = x.map σ.ev := fun s2 x => by cases x <;> simp [ev]
  unfold opR opD at h ⊢
  split at h
  · rename_i t n ps hop
    rw [buildValE_bind _ _ _ (fun e => two e σ.s)] at h
    obtain ⟨h1, rfl⟩ := two_bind h
    refine ⟨rfl, fun s2 _ => ?_⟩
    simp only [ev]
    rw [buildValE_bind, h1]; rfl
  · rename_i t x lo hi hop
    rw [sliceD_bind _ _ _ _ _ (fun e => two e σ.s)] at h
    obtain ⟨h1, rfl⟩ := two_bind h
    rw [hop] at hF
    simp only [rdOf, Option.some.injEq] at hF
    subst hF
    refine ⟨rfl, fun s2 h2 => ?_⟩
    simp only [ev, evm]
    rw [sliceD_bind, sliceD_foot h2, h1]; rfl
  · cases h
  · rename_i t m k ok hop
    rw [lookupD_bind _ _ _ _ _ (fun e => two e σ.s)] at h
    obtain ⟨h1, rfl⟩ := two_bind h
    rw [hop] at hF
    simp only [rdOf, Option.some.injEq] at hF
    subst hF
    refine ⟨rfl, fun s2 h2 => ?_⟩
    simp only [ev]
    rw [lookupD_bind, lookupD_foot h2, h1]; rfl
  · rename_i hb hs1 hs2 hk
    refine reads0 (fun t n ps hq => hb t n ps hq) (fun t x l hh m hq => ?_) (fun t m k b hq => hk _ _ _ _ hq) hF h
    cases m with
    | none => exact hs1 _ _ _ _ hq
    | some m => exact hs2 _ _ _ _ _ hq
end
end Go.Proofs.YtnajjhjbkanigaaDoor.Cm
