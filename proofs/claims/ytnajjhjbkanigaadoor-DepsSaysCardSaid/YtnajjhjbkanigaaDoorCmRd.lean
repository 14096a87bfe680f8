/- Code as plain functions: a law's arguments, opened as plain data of any kind; the world at the door. By this session. -/
import Derived.SizedLaws
import Derived.ChangeSlices
import Derived.ChangeArms
import Derived.LaidLaws
import Derived.LaidSub
import Derived.ProofKit
import Derived.Test.YtnajjhjbkanigaaDoorCmFo
namespace Go.Proofs.YtnajjhjbkanigaaDoor.Cm
open Go Go.ChangeShapes Go.WideShapes Go.RowKit
set_option linter.unusedVariables false
mutual
def GoodX : Rx → Prop
  | .mk a b c s l => (Lit.int .i64 a).wf = true ∧ (Lit.int .i64 b).wf = true ∧ (Lit.int .i64 c).wf = true ∧ ByteArray.size s ≤ 140737488351232 ∧ GoodXl l
def GoodXl : List Rx → Prop
  | [] => True
  | x :: l => GoodX x ∧ GoodXl l
end
/-- What is known of data that came in. -/
def Good (P : Program) : (t : Ty) → t.T → Prop
  | .int k, x => (Lit.int k x).wf = true
  | .str, s => ByteArray.size s ≤ 140737488351232
  | .fl e t, l => False
  | .slice e t, l => (show List t.T from l).length * P.bytesOf e ≤ 140737488351232 ∧ ∀ x ∈ (show List t.T from l), Good P t x
  | .pair a b, x => Good P a x.1 ∧ Good P b x.2
  | .exs _, l => GoodXl l
  | _, _ => True
def okFs (P : Program) (ok : TypeId → Ty → Bool) : List Field → Nat → Ty → Bool
  | [], _, _ => false
  | [f], off, ty => decide (f.offset = off ∧ P.cellsOf f.type = ty.size) && ok f.type ty
  | f :: g :: fs, off, .pair a b => decide (f.offset = off ∧ P.cellsOf f.type = a.size) && ok f.type a && okFs P ok (g :: fs) (off + a.size) b
  | _ :: _ :: _, _, _ => false
/-- A structure that contains itself. -/
def okX (P : Program) (e : TypeId) (t : TypeId) (ty : Ty) : Bool :=
  match P.underlying t, ty with
  | some (.int k), .int k' => decide (k = k')
  | some .string, .str => true
  | some (.slice e'), .exs e'' => decide (e' = e ∧ e'' = e)
  | _, _ => false
def exB (P : Program) (e : TypeId) : Bool :=
  match P.underlying e with
  | some (.struct fs) => decide (P.cellsOf e = (tyEx e).size) && okFs P (okX P e) fs.toList 0 (tyEx e)
  | _ => false
/-- The kind is the type's own. -/
def okT (P : Program) : Nat → TypeId → Ty → Bool
  | 0, _, _ => false
  | n + 1, t, ty =>
    match P.underlying t, ty with
    | some (.int k), .int k' => decide (k = k')
    | some .bool, .bool => true
    | some .string, .str => true
    | some (.slice e), .slice e' ty => decide (e = e' ∧ P.cellsOf e = ty.size) && okT P n e ty
    | some (.slice e), .exs e' => decide (e = e') && exB P e
    | some (.struct fs), ty => decide (P.cellsOf t = ty.size) && okFs P (okT P n) fs.toList 0 ty
    | _, _ => false
section
variable {P : Program} {W : World} {C : Cfg} {S : Nat → Addr}
abbrev hz (W : World) : Nat → Prop := fun b => b < W.heap.size
theorem weightsAll_mem {H : Type} (e : TypeId) : ∀ {l : List (DataW H)}, (DataW.weightsAll P e l).all (· ≤ reachBytes) = true → ∀ d ∈ l, (DataW.weights P e d).all (· ≤ reachBytes) = true
  | [], _, d, hd => by cases hd
  | a :: r, h, d, hd => by
    simp only [DataW.weightsAll, List.all_append, Bool.and_eq_true] at h
    rcases List.mem_cons.1 hd with rfl | hd
    · exact h.1
    · exact weightsAll_mem e h.2 d hd
theorem weightsEach_get {H : Type} : ∀ {ts : List TypeId} {l : List (DataW H)}, (DataW.weightsEach P ts l).all (· ≤ reachBytes) = true → ∀ (i : Nat) t d, ts[i]? = some t → l[i]? = some d → (DataW.weights P t d).all (· ≤ reachBytes) = true
  | [], l, h, i, t, d, ht, hd => by simp at ht
  | t0 :: ts, [], h, i, t, d, ht, hd => by simp at hd
  | t0 :: ts, a :: r, h, i, t, d, ht, hd => by
    simp only [DataW.weightsEach, List.all_append, Bool.and_eq_true] at h
    cases i with
    | zero =>
      simp only [List.getElem?_cons_zero, Option.some.injEq] at ht hd
      subst ht; subst hd
      exact h.1
    | succ i =>
      simp only [List.getElem?_cons_succ] at ht hd
      exact weightsEach_get h.2 i t d ht hd


def RdT (P : Program) (C : Cfg) (S : Nat → Addr) (W : World) (K : Nat) (t : TypeId) (ty : Ty) : Prop :=
  ∀ {H : Type} {enc : TypeId × Value → H} {base : Nat} {sp : Nat → Bool} {held : Bool} {fuel : Nat} {cs : List Value} {x : DataW H × List MemPlace}, fuel ≤ K →
    DataW.trod enc P W base sp held fuel t cs = some x → (DataW.weights P t x.1).all (· ≤ reachBytes) = true → ∃ a : ty.T, RepT C S W (hz W) ty a cs ∧ Good P ty a
theorem rdt_int {K : Nat} {t : TypeId} {k : IntKind} (ht : P.underlying t = some (.int k)) : RdT P C S W K t (.int k) := by
  intro H enc base sp held fuel cs x _ h _
  obtain ⟨n, rfl, _, hw⟩ := DataW.trod_int ht h
  exact ⟨n, rfl, hw⟩
theorem rdt_bool {K : Nat} {t : TypeId} (ht : P.underlying t = some .bool) : RdT P C S W K t .bool := by
  intro H enc base sp held fuel cs x _ h _
  obtain ⟨b, rfl, _⟩ := DataW.trod_bool ht h
  exact ⟨b, rfl, trivial⟩
theorem rdt_string {K : Nat} {t : TypeId} (ht : P.underlying t = some .string) : RdT P C S W K t .str := by
  intro H enc base sp held fuel cs x _ h hz
  obtain ⟨s, rfl, rfl, _⟩ := DataW.trod_string ht h
  refine ⟨s, rfl, ?_⟩
  simp only [DataW.weights, List.all_cons, List.all_nil, Bool.and_true] at hz
  have hz := of_decide_eq_true hz
  rw [Array.length_toList] at hz
  exact hz
/-- A row of cells, each element read: one list for all. -/
theorem rdt_row {ty : Ty} {ad : Addr} (n m : Nat) (hm : n ≤ m)
    (h : ∀ i, i < n → ∃ (cs : List Value) (a : ty.T), (∀ j u, cs[j]? = some u → W.cell? (ad.add (i * ty.size + j)) = some u) ∧ RepT C S W (hz W) ty a cs ∧ Good P ty a) :
    ∃ (xs : List ty.T) (ys : List Value), xs.length = n ∧ Reps (RepT C S W (hz W) ty) xs ys ∧ (∀ j u, ys[j]? = some u → W.cell? (ad.add j) = some u) ∧ ∀ x ∈ xs, Good P ty x := by
  induction n with
  | zero => exact ⟨[], [], rfl, rfl, fun j u hj => by simp at hj, fun x hx => by cases hx⟩
  | succ n ih =>
    obtain ⟨xs, ys, hl, hx, hat, hg⟩ := ih (by omega) (fun i hi => h i (by omega))
    obtain ⟨cs, a, hc, hk, hgood⟩ := h n (by omega)
    have hyl : ys.length = n * ty.size := by rw [Reps.length (fun _ _ q => RepT.size q) hx, hl]
    refine ⟨xs ++ [a], ys ++ cs, by simp [hl], Reps.append hx ⟨cs, [], by simp, hk, rfl⟩, fun j u hj => ?_, fun x hx' => ?_⟩
    · by_cases hjl : j < ys.length
      · rw [List.getElem?_append_left hjl] at hj
        exact hat j u hj
      · rw [List.getElem?_append_right (by omega)] at hj
        have := hc (j - ys.length) u hj
        rw [show n * ty.size + (j - ys.length) = j by omega] at this
        exact this
    · rcases List.mem_append.1 hx' with hx' | hx'
      · exact hg x hx'
      · rw [List.mem_singleton.1 hx']; exact hgood
theorem RdT.mono {K K' : Nat} (h : K ≤ K') {t : TypeId} {ty : Ty} (r : RdT P C S W K' t ty) : RdT P C S W K t ty := by
  intro H enc base sp held fuel cs x hf hx hz
  exact r (Nat.le_trans hf h) hx hz
theorem rdt_slice {K : Nat} {t e : TypeId} {ty : Ty} (ht : P.underlying t = some (.slice e)) (hc : P.cellsOf e = ty.size) (he : RdT P C S W K e ty) : RdT P C S W (K + 1) t (.slice e ty) := by
  intro H enc base sp held fuel cs x hfu h hz
  rcases DataW.trod_slice ht h with ⟨rfl, _⟩ | ⟨a, len, cap, elems, rest, n, hn, rfl, rfl, hb, hl, hm, hlen, hel, hsp, hns⟩
  · exact ⟨[], ⟨none, 0, [], rfl, Nat.le_refl _, rfl, .inl rfl⟩, by simp, fun x hx => by cases hx⟩
  · simp only [DataW.weights, ht, List.all_cons, List.all_append, Bool.and_eq_true, List.length_map] at hz
    obtain ⟨hz1, hz2, _⟩ := hz
    have hz1 : (elems.length + rest.length) * P.bytesOf e ≤ 140737488351232 := of_decide_eq_true hz1
    obtain ⟨xs, ys, hxl, hx, hat, hg⟩ := rdt_row (P := P) (C := C) (S := S) (W := W) (ty := ty) (ad := a) len len (Nat.le_refl _) (fun i hi => by
      have h1 := hel i hi
      obtain ⟨y, hy⟩ : ∃ y, elems[i]? = some y := ⟨_, List.getElem?_eq_getElem (by omega)⟩
      rw [hy, Option.bind_eq_some_iff] at h1
      obtain ⟨cs', hcs, hy'⟩ := h1
      obtain ⟨q, hk, hgq⟩ := he (by omega) hy' (weightsAll_mem e hz2 y.1 (List.mem_map.2 ⟨y, List.mem_of_getElem? hy, rfl⟩))
      rw [hc] at hcs
      obtain ⟨_, hcl, hat⟩ := World.cells?_some hcs
      refine ⟨cs', q, fun j u hj => ?_, hk, hgq⟩
      have hjl : j < ty.size := by
        have := (List.getElem?_eq_some_iff.1 hj).1
        omega
      have h2 := hat j hjl
      rw [add_add'] at h2
      rw [h2]
      exact hj)
    refine ⟨xs, ⟨some a, cap, ys, by rw [hxl], by omega, hx, ?_⟩, ?_, hg⟩
    · cases ys with
      | nil => exact .inl rfl
      | cons y ys =>
        have h0 := hat 0 y rfl
        have hsp0 : a.spot = none := by have := World.cell?_spot h0; simpa [Addr.add] using this
        refine .inr ⟨a, rfl, hsp0, ?_, hat⟩
        have := World.block_lt_of_cell? W _ h0
        simpa [Addr.add] using this
    · have : xs.length * P.bytesOf e ≤ (elems.length + rest.length) * P.bytesOf e := Nat.mul_le_mul_right _ (by omega)
      exact Nat.le_trans this hz1
def RdF (P : Program) (C : Cfg) (S : Nat → Addr) (W : World) (K : Nat) (fs : List Field) (off : Nat) (ty : Ty) : Prop :=
  ∀ {H : Type} {enc : TypeId × Value → H} {base : Nat} {sp : Nat → Bool} {held : Bool} {fuel : Nat} {cs : List Value} (xs : List (DataW H × List MemPlace)), fuel ≤ K → xs.length = fs.length →
    (∀ (i : Nat) (f : Field), fs[i]? = some f → DataW.trod enc P W base sp held fuel f.type ((cs.drop f.offset).take (P.cellsOf f.type)) = xs[i]?) →
    (DataW.weightsEach P (fs.map (·.type)) (xs.map (·.1))).all (· ≤ reachBytes) = true → cs.length = off + ty.size → ∃ a : ty.T, RepT C S W (hz W) ty a (cs.drop off) ∧ Good P ty a
theorem rdt_fs {K : Nat} {ok : TypeId → Ty → Bool} (hok : ∀ t ty, ok t ty = true → RdT P C S W K t ty) : ∀ {fs : List Field} {off : Nat} {ty : Ty}, okFs P ok fs off ty = true → RdF P C S W K fs off ty
  | [], off, ty, h => by simp [okFs] at h
  | [f], off, ty, h => by
    simp only [okFs, Bool.and_eq_true, decide_eq_true_eq] at h
    intro xs hfu hl hx hz hcs
    rename_i H enc base sp held fuel cs
    obtain ⟨⟨ho, hc⟩, h2⟩ := h
    have h1 := hx 0 f rfl
    rw [ho, hc, List.take_of_length_le (by simp; omega)] at h1
    match xs, hl with
    | [y], _ =>
      refine hok _ _ h2 hfu h1 ?_
      simpa [DataW.weightsEach] using hz
  | f :: g :: fs, off, ty, h => by
    cases ty with
    | pair a b =>
      simp only [okFs, Bool.and_eq_true, decide_eq_true_eq] at h
      obtain ⟨⟨⟨ho, hc⟩, h2⟩, h3⟩ := h
      intro xs hfu hl hx hz hcs
      rename_i H enc base sp held fuel cs
      have h1 := hx 0 f rfl
      rw [ho, hc] at h1
      have hsz : (Ty.pair a b).size = a.size + b.size := rfl
      match xs, hl with
      | y :: ys, hl =>
        simp only [List.map_cons, DataW.weightsEach, List.all_append, Bool.and_eq_true] at hz
        obtain ⟨p, hp, gp⟩ := hok _ _ h2 hfu h1 hz.1
        obtain ⟨q, hq, gq⟩ := rdt_fs hok h3 (cs := cs) ys hfu (by simpa using hl) (fun i f' hf => by simpa using hx (i + 1) f' (by simpa using hf)) (by simpa [DataW.weightsEach] using hz.2) (by omega)
        exact ⟨(p, q), ⟨_, _, by rw [← List.drop_drop, List.take_append_drop], hp, hq⟩, gp, gq⟩
    | _ => simp [okFs] at h
theorem goodXl_map {e : TypeId} : ∀ {l : List (tyEx e).T}, (∀ x ∈ l, Good P (tyEx e) x) → GoodXl (l.map Rx.ro)
  | [], _ => trivial
  | x :: l, h => ⟨⟨(h x (.head _)).1, (h x (.head _)).2.1, (h x (.head _)).2.2.1, (h x (.head _)).2.2.2.1, (h x (.head _)).2.2.2.2⟩, goodXl_map fun y hy => h y (.tail _ hy)⟩
theorem rdt_exs {e : TypeId} (hx : exB P e = true) : ∀ (K : Nat) {t : TypeId}, P.underlying t = some (.slice e) → RdT P C S W K t (.exs e)
  | 0, t, ht => by
    intro hfu h hz
    have h0 := Nat.le_zero.1 hfu
    subst h0
    simp [DataW.trod] at h
  | K + 1, t, ht => by
    unfold exB at hx
    split at hx
    · rename_i fs hu
      simp only [Bool.and_eq_true, decide_eq_true_eq] at hx
      have hel : RdT P C S W K e (tyEx e) := by
        intro H enc base sp held fuel cs x hfu h hz
        obtain ⟨xs, m, hm, rfl, hl, hlen, hf⟩ := DataW.trod_struct hu h
        simp only [DataW.weights, hu] at hz
        have hok : ∀ t' ty', okX P e t' ty' = true → RdT P C S W K t' ty' := by
          intro t' ty' h'
          unfold okX at h'
          split at h'
          · rename_i hu'; obtain rfl := of_decide_eq_true h'; exact rdt_int hu'
          · rename_i hu'; exact rdt_string hu'
          · rename_i hu'
            obtain ⟨rfl, rfl⟩ := of_decide_eq_true h'
            exact rdt_exs (by unfold exB; rw [hu]; simp only [Bool.and_eq_true, decide_eq_true_eq]; exact hx) K hu'
          · cases h'
        obtain ⟨a, hk, hg⟩ := rdt_fs hok hx.2 (cs := cs) xs (by omega) (by simpa using hlen) (fun i f hi => hf i f (by simpa using hi)) hz (by omega)
        exact ⟨a, by simpa using hk, hg⟩
      intro hfu h hz
      obtain ⟨l, h1, h2⟩ := rdt_slice (ty := tyEx e) ht hx.1 hel hfu h hz
      exact ⟨List.map Rx.ro l, exs_ro h1, goodXl_map h2.2⟩
    · cases hx
theorem rdt_all : ∀ (K n : Nat) (t : TypeId) (ty : Ty), okT P n t ty = true → RdT P C S W K t ty
  | K, 0, _, _, h => by simp [okT] at h
  | K, n + 1, t, ty, h => by
    unfold okT at h
    split at h
    · rename_i hu; obtain rfl := of_decide_eq_true h; exact rdt_int hu
    · rename_i hu; exact rdt_bool hu
    · rename_i hu; exact rdt_string hu
    · rename_i hu
      simp only [Bool.and_eq_true, decide_eq_true_eq] at h
      obtain ⟨⟨rfl, hc⟩, h2⟩ := h
      exact RdT.mono (Nat.le_succ K) (rdt_slice hu hc (rdt_all K n _ _ h2))
    · rename_i hu
      simp only [Bool.and_eq_true, decide_eq_true_eq] at h
      obtain ⟨rfl, h2⟩ := h
      exact rdt_exs h2 K hu
    · rename_i fs _ hu
      simp only [Bool.and_eq_true, decide_eq_true_eq] at h
      intro hfu hx hz
      obtain ⟨xs, m, hm, rfl, hl, hlen, hf⟩ := DataW.trod_struct hu hx
      simp only [DataW.weights, hu] at hz
      obtain ⟨a, hk, hg⟩ := rdt_fs (rdt_all K n) h.2 (cs := _) xs (by omega) (by simpa using hlen) (fun i f hi => hf i f (by simpa using hi)) hz (by omega)
      exact ⟨a, by simpa using hk, hg⟩
    · cases h
/-! #### an argument -/
section
variable {H : Type} {enc : TypeId × Value → H} {base b0 : Nat} {sp : Nat → Bool} {held : Bool} {v : Value} {x : DataW H} {ps : List MemPlace} {t : TypeId} {ty : Ty}
theorem arg_one (hn : (match P.underlying t with | some (.struct _) => true | _ => false) = false) (ok : okT P 9 t ty = true) (hval : Value.okWide P W .any b0 t v) (h : DataW.Trod enc P W base sp held t v x ps) (hz' : (DataW.weights P t x).all (· ≤ reachBytes) = true) :
    ∃ a : ty.T, RepE C S W (hz W) [] (.one (.val ty a)) v ∧ Good P ty a := by
  have hcell : v.cells.toList = [v] := by
    unfold okT at ok
    split at ok
    · rename_i hu; obtain ⟨n, rfl, _⟩ := open_int hu hval h; rfl
    · rename_i hu; obtain ⟨n, rfl, _⟩ := open_bool hu hval h; rfl
    · rename_i hu; obtain ⟨n, rfl⟩ := okWide_string hu hval; rfl
    · rename_i hu; obtain ⟨a, l, c, rfl⟩ := okWide_slice hu hval; rfl
    · rename_i hu; obtain ⟨a, l, c, rfl⟩ := okWide_slice hu hval; rfl
    · rename_i hu; rw [hu] at hn; cases hn
    · cases ok
  obtain ⟨fuel, hf⟩ := h
  rw [hcell] at hf
  obtain ⟨a, h1, h2⟩ := rdt_all (C := C) (S := S) (W := W) fuel 9 t ty ok (Nat.le_refl _) hf hz'
  exact ⟨a, h1, h2⟩
theorem arg_agg {fs : Array Field} (hu : P.underlying t = some (.struct fs)) (ok : okT P 9 t ty = true) (hval : Value.okWide P W .any b0 t v) (h : DataW.Trod enc P W base sp held t v x ps) (hz' : (DataW.weights P t x).all (· ≤ reachBytes) = true) :
    ∃ a : ty.T, RepE C S W (hz W) [] (.agg (explode ty a)) v ∧ Good P ty a := by
  obtain ⟨cs, rfl, _⟩ := okWide_struct hu hval
  obtain ⟨fuel, hf⟩ := h
  obtain ⟨a, h1, h2⟩ := rdt_all (C := C) (S := S) (W := W) fuel 9 t ty ok (Nat.le_refl _) hf hz'
  exact ⟨a, ⟨cs.toList, rfl, explode_rep h1⟩, h2⟩
end
/-- The world at the door. -/
theorem door_rel (hs : ∀ c ∈ C.sents, W.cell? ⟨c.2, 0, none⟩ = some (.iface C.te (.pointer (some (S c.1)))) ∧ ∃ ca ta, W.heap[(S c.1).block]? = some (.cells ca ta (0, 0))) (ht : ∀ p ∈ C.tabs, p.1 < W.heap.size ∧ p.2 W.heap[p.1]?) : Rel C S W (hz W) [] [] where
  len := rfl
  slot := fun i s g h => by simp at h
  apart := fun i j gi gj b h => by simp at h
  own := fun i g b h => by simp at h
  fz := fun b h => h
  glob := fun c g h => by
    obtain ⟨h1, ca, ta, h2⟩ := hs (c, g) h
    refine ⟨World.block_lt_of_cell? W _ h1, h1, ?_, ca, ta, h2⟩
    exact (Array.getElem?_eq_some_iff.1 h2).1
  tab := fun p h => ht p h
def teB (P : Program) (C : Cfg) : Bool :=
  match P.underlying C.te with
  | some (.pointer u) => (match P.info? C.te, P.info? u with | some i, some j => i.comparable && decide (j.size ≠ 0) | _, _ => false)
  | _ => false
def taB (P : Program) (C : Cfg) : Bool := match P.underlying C.ta with | some (.pointer u) => decide (u = C.tA) | _ => false
def tzB (P : Program) (C : Cfg) : Bool := match P.info? C.ta with | some i => (match i.zero with | some (.pointer none) => true | _ => false) | _ => false
theorem cfg_ok (mix : P.follows .mixedOrders = true) (te : teB P C = true) (ta : (decide (C.te ≠ C.ta) && taB P C) = true) (tz : tzB P C = true) (inj : ∀ c d g h, (c, g) ∈ C.sents → (d, h) ∈ C.sents → S c = S d → c = d) : CfgOk P C S := by
  simp only [Bool.and_eq_true, decide_eq_true_eq] at ta
  refine ⟨mix, ?_, ta.1, ?_, ?_, inj⟩
  · unfold teB at te
    split at te
    · rename_i u hu
      split at te
      · rename_i i j hi hj
        simp only [Bool.and_eq_true, decide_eq_true_eq] at te
        exact ⟨u, i, j, hu, hi, te.1, hj, te.2⟩
      · cases te
    · cases te
  · have h := ta.2
    unfold taB at h
    split at h
    · rename_i u hu; rw [hu, of_decide_eq_true h]
    · cases h
  · unfold tzB at tz
    split at tz
    · rename_i i hi
      split at tz
      · rename_i hz; exact ⟨i, hi, hz⟩
      · cases tz
    · cases tz
theorem tab_door {g : Nat} {name : String} {k : IntKind} {zs : List Int} (hg : P.globalNamed name = some g) (h : Lib.TabIs P W name k zs) : g < W.heap.size ∧ tabP (fun z => Value.int k z) zs W.heap[g]? := by
  simp only [Lib.TabIs, World.var?, hg, Option.bind_some] at h
  split at h
  · rename_i cs t l hc
    exact ⟨(Array.getElem?_eq_some_iff.1 hc).1, t, l, by rw [hc, Option.some.inj h]⟩
  · cases h
theorem door_below {Fz : Nat → Prop} {gs : List Gh} {W' : World} (h : Step 0 W (hz W) [] W' Fz gs) : Below W.heap.size W W' :=
  ⟨h.os, h.tape, h.output, h.size, fun k hk => h.keep k hk (fun i g hg => by simp at hg)⟩
end
section
variable {P : Program} {W : World}
/-! #### the sentinels that a row lists -/
def isSent (nm : String) : DataW Unit → Bool
  | .iface n (.ptr (.agg [.lit (.string _)])) => n == nm
  | _ => false
theorem sent_rows {nm : String} {ti tp te ts : TypeId} {ms : Array (String × TypeId)} {f : Field} (hi : P.underlying ti = some (.interface ms)) (hrow : ∀ u, P.typeName? 3 u = some nm → u = tp)
    (hp : P.underlying tp = some (.pointer te)) (he : P.underlying te = some (.struct #[f])) (hft : f.type = ts) (hfo : f.offset = 0) (hs : P.underlying ts = some .string) (hc : P.cellsOf te = 1) (hcs : P.cellsOf ts = 1) :
    ∀ {laid : List (String × DataW Unit)} {ps : List MemPlace}, DataW.LaidVars P W laid ps → ps.Nodup →
      (∀ b off, MemPlace.cell b off ∈ ps → (∃ c t, W.heap[b]? = some (.cells c t (0, 0))) ∧ ∀ u v, W.cell? ⟨b, off, none⟩ = some (.iface u v) → Value.okWide P W .any 0 u v) →
      ∀ {sl : List (Nat × Nat)}, laid.map (fun x => P.globalNamed x.1) = sl.map (fun c => some c.2) → (sl.all fun c => decide ((P.globals[c.2]?).map (·.type) = some ti)) = true → (laid.all fun x => isSent nm x.2) = true → (sl.map (·.1)).Nodup →
      ∃ S : Nat → Addr, (∀ c ∈ sl, W.cell? ⟨c.2, 0, none⟩ = some (.iface tp (.pointer (some (S c.1)))) ∧ (∃ ca ta, W.heap[(S c.1).block]? = some (.cells ca ta (0, 0))) ∧ MemPlace.cell (S c.1).block (S c.1).off ∈ ps ∧ (S c.1).spot = none) ∧ ∀ c ∈ sl, ∀ d ∈ sl, S c.1 = S d.1 → c.1 = d.1
  | [], ps, h, hnd, hr, sl, hg, hty, hsent, hn => by
    cases sl with
    | nil => exact ⟨fun _ => default, (fun c hc => by cases hc), fun c hc => by cases hc⟩
    | cons c sl => simp at hg
  | (n, d) :: r, ps, h, hnd, hr, sl, hg, hty, hsent, hn => by
    cases sl with
    | nil => simp at hg
    | cons c0 sl =>
      obtain ⟨g, t, cs, fuel, p, q, hg0, ht0, hv0, hd0, hrest, rfl⟩ := h
      simp only [List.map_cons, List.cons.injEq] at hg
      simp only [List.all_cons, Bool.and_eq_true, decide_eq_true_eq] at hty hsent
      simp only [List.map_cons, List.nodup_cons] at hn
      obtain rfl : g = c0.2 := Option.some.inj (hg0.symm.trans hg.1)
      obtain rfl : ti = t := Option.some.inj (hty.1.symm.trans ht0)
      obtain ⟨text, rfl⟩ : ∃ text, d = .iface nm (.ptr (.agg [.lit (.string text)])) := by
        have h1 := hsent.1
        unfold isSent at h1
        split at h1
        · rename_i n' text
          exact ⟨text, by rw [of_decide_eq_true (by simpa using h1 : decide (n' = nm) = true)]⟩
        · cases h1
      obtain ⟨l0⟩ := cs
      have ok0 : ∀ u v, l0 = [.iface u v] → Value.okWide P W .any 0 u v := fun u v e => by
        subst e
        exact (hr c0.2 0 (by simp [MemPlace.row])).2 u v (by simpa using World.var?_cell hg0 hv0 0)
      obtain ⟨a0, s0, rfl, hc0, hs0, hz0, rfl⟩ := errorString_of_trod hi hrow hp he hft hfo hs hc hcs hd0 ok0
      have hnd' : (q : List MemPlace).Nodup := (List.nodup_append.1 hnd).2.1
      obtain ⟨S, hS, hinj⟩ := sent_rows hi hrow hp he hft hfo hs hc hcs hrest hnd' (fun b off hb => hr b off (List.mem_append_right _ hb)) hg.2 hty.2 hsent.2 hn.2
      have hspot : a0.spot = none := World.cell?_spot hc0
      have hin : MemPlace.cell a0.block a0.off ∈ MemPlace.row ⟨c0.2, 0, none⟩ (#[Value.iface tp (Value.pointer (some a0))] : Array Value).size ++ MemPlace.row a0 1 := List.mem_append_right _ (by simp [MemPlace.row])
      have hne : ∀ c ∈ sl, c.1 ≠ c0.1 := fun c hc e => hn.1 (by rw [← e]; exact List.mem_map.2 ⟨c, hc, rfl⟩)
      refine ⟨fun z => if z = c0.1 then a0 else S z, fun c hc => ?_, fun c hc d hd => ?_⟩ <;> dsimp only
      · rcases List.mem_cons.1 hc with rfl | hc
        · rw [if_pos rfl]
          exact ⟨by simpa using World.var?_cell hg0 hv0 0, (hr a0.block a0.off (List.mem_append_left _ hin)).1, List.mem_append_left _ hin, hspot⟩
        · rw [if_neg (hne c hc)]
          obtain ⟨h1, h2, h3, h4⟩ := hS c hc
          exact ⟨h1, h2, List.mem_append_right _ h3, h4⟩
      · have far : ∀ c ∈ sl, S c.1 ≠ a0 := fun c hc e => by
          obtain ⟨_, _, h3, _⟩ := hS c hc
          rw [e] at h3
          exact (List.nodup_append.1 hnd).2.2 _ hin _ h3 rfl
        rcases List.mem_cons.1 hc with ec | hc1 <;> rcases List.mem_cons.1 hd with ed | hd1
        · exact fun _ => by rw [ec, ed]
        · intro e
          rw [if_pos (by rw [ec]), if_neg (hne d hd1)] at e
          exact absurd e.symm (far d hd1)
        · intro e
          rw [if_pos (show d.1 = c0.1 by rw [ed]), if_neg (hne c hc1)] at e
          exact absurd e (far c hc1)
        · intro e
          rw [if_neg (hne c hc1), if_neg (hne d hd1)] at e
          exact hinj c hc1 d hd1 e
theorem sent_of_laid {nm : String} {ti tp te ts : TypeId} {ms : Array (String × TypeId)} {f : Field} (hi : P.underlying ti = some (.interface ms)) (hrow : ∀ u, P.typeName? 3 u = some nm → u = tp)
    (hp : P.underlying tp = some (.pointer te)) (he : P.underlying te = some (.struct #[f])) (hft : f.type = ts) (hfo : f.offset = 0) (hs : P.underlying ts = some .string) (hc : P.cellsOf te = 1) (hcs : P.cellsOf ts = 1)
    {laid : List (String × DataW Unit)} (h : laidMet P laid W) {sl : List (Nat × Nat)} (hg : laid.map (fun x => P.globalNamed x.1) = sl.map (fun c => some c.2)) (hty : (sl.all fun c => decide ((P.globals[c.2]?).map (·.type) = some ti)) = true)
    (hsent : (laid.all fun x => isSent nm x.2) = true) (hn : (sl.map (·.1)).Nodup) :
    ∃ S : Nat → Addr, (∀ c ∈ sl, W.cell? ⟨c.2, 0, none⟩ = some (.iface tp (.pointer (some (S c.1)))) ∧ ∃ ca ta, W.heap[(S c.1).block]? = some (.cells ca ta (0, 0))) ∧ ∀ c ∈ sl, ∀ d ∈ sl, S c.1 = S d.1 → c.1 = d.1 := by
  obtain ⟨ps, hl, hnd, hr⟩ := h
  obtain ⟨S, hS, hinj⟩ := sent_rows hi hrow hp he hft hfo hs hc hcs hl hnd hr hg hty hsent hn
  exact ⟨S, fun c hc => ⟨(hS c hc).1, (hS c hc).2.1⟩, hinj⟩

end
end Go.Proofs.YtnajjhjbkanigaaDoor.Cm
