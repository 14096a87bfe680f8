/- Code as plain functions: code does what is read of it. By this session. -/
import Derived.Test.YtnajjhjbkanigaaDoorCmS
import Derived.Lib.AppendZerosOnto
namespace Go.Proofs.YtnajjhjbkanigaaDoor.Cm
open Go
set_option linter.unusedVariables false
set_option linter.unusedSimpArgs false
section
variable {P : Program} {C : Cfg} {S : Nat → Addr} {R : Type} {O : FuncId → List FSpec}
/-- Where a call stands, seen from its beginning. -/
structure Inv (C : Cfg) (S : Nat → Addr) (nl : Nat) (w0 : World) (F0 : Nat → Prop) (g0 : List Gh) (σ : St) (a : Act) (w : World) (Fz : Nat → Prop) (gs : List Gh) : Prop where
  rel : Rel C S w Fz gs σ.s
  tmps : Tmps C S w Fz gs σ.t a.tmps
  defers : a.defers = []
  step : Step nl w0 F0 g0 w Fz gs
  le : nl ≤ gs.length
variable {nl : Nat} {w0 : World} {F0 : Nat → Prop} {g0 : List Gh}
theorem Tmps.fix {w w' : World} {Fz Fz' : Nat → Prop} {gs gs' : List Gh} {t : List Ent} {tmps : Array Value} (h : Fix w Fz w' Fz') (x : Ext gs gs') (r : Tmps C S w Fz gs t tmps) : Tmps C S w' Fz' gs' t tmps :=
  ⟨r.size, fun i e hi => by obtain ⟨v, h1, h2⟩ := r.get i e hi; exact ⟨v, h1, h2.fix h x⟩⟩
theorem Tmps.set {w : World} {Fz : Nat → Prop} {gs : List Gh} {t : List Ent} {tmps : Array Value} (r : Tmps C S w Fz gs t tmps) (d : Nat) {e : Ent} {v : Value} (hr : RepE C S w Fz gs e v) : Tmps C S w Fz gs (t.set d e) (tmps.setIfInBounds d v) := by
  refine ⟨by simp [r.size], fun i e' hi => ?_⟩
  rw [List.getElem?_set] at hi
  split at hi
  · rename_i hd
    split at hi
    · rename_i hlt
      obtain rfl := Option.some.inj hi
      subst hd
      exact ⟨v, by rw [Array.getElem?_setIfInBounds]; simp [r.size, hlt], hr⟩
    · cases hi
  · rename_i hd
    obtain ⟨u, h1, h2⟩ := r.get i e' hi
    exact ⟨u, by rw [Array.getElem?_setIfInBounds, if_neg hd]; exact h1, h2⟩
/-- The same value, told anew. -/
theorem Tmps.tell {w : World} {Fz : Nat → Prop} {gs : List Gh} {t : List Ent} {tmps : Array Value} (r : Tmps C S w Fz gs t tmps) (d : Nat) {e : Ent} (hr : RepE C S w Fz gs e (tmps.getD d undef)) : Tmps C S w Fz gs (t.set d e) tmps := by
  refine ⟨by simp [r.size], fun i e' hi => ?_⟩
  rw [List.getElem?_set] at hi
  split at hi
  · rename_i hd
    split at hi
    · rename_i hlt
      obtain rfl := Option.some.inj hi
      subst hd
      have : d < tmps.size := by rw [r.size]; exact hlt
      refine ⟨tmps[d], Array.getElem?_eq_getElem this, ?_⟩
      rw [Array.getD_eq_getD_getElem?, Array.getElem?_eq_getElem this] at hr
      exact hr
    · cases hi
  · exact r.get i e' hi
theorem Tmps.at_ {w : World} {Fz : Nat → Prop} {gs : List Gh} {t : List Ent} {tmps : Array Value} (r : Tmps C S w Fz gs t tmps) (d : Nat) : RepE C S w Fz gs (t.getD d (.one .undef)) (tmps.getD d undef) := by
  cases h : t[d]? with
  | none => rw [List.getD_eq_getElem?_getD, h]; trivial
  | some e =>
    obtain ⟨v, h1, h2⟩ := r.get d e h
    rw [List.getD_eq_getElem?_getD, h, Array.getD_eq_getD_getElem?, h1]
    exact h2
/-- Behind a step of an operation. -/
theorem Inv.next {σ : St} {a : Act} {w w' : World} {Fz Fz' : Nat → Prop} {gs gs' : List Gh} (i : Inv C S nl w0 F0 g0 σ a w Fz gs) {v : Value} {e : Ent} {s' : List Slot} (h1 : Rel C S w' Fz' gs' s') (h2 : RepE C S w' Fz' gs' e v) (h3 : Step gs.length w Fz gs w' Fz' gs') (dst : Option Nat) :
    Inv C S nl w0 F0 g0 (σ.set dst e s') (a.put dst v) w' Fz' gs' := by
  have fx := h3.fix ⟨_, i.rel⟩
  have ex := h3.ext' (Nat.le_refl _)
  have ht := i.tmps.fix fx ex
  cases dst with
  | none => exact ⟨h1, ht, i.defers, i.step.trans (h3.le i.le), Nat.le_trans i.le (ext_le ex)⟩
  | some d => exact ⟨h1, ht.set d h2, i.defers, i.step.trans (h3.le i.le), Nat.le_trans i.le (ext_le ex)⟩
theorem yielded_eq {ops : Array Oper} {tmps : Array Value} {j d : Nat} {b : Bool} (hd : (ops[j]?).bind (·.dst) = some d) (h : tmps[d]? = some (.bool b)) : yielded ops tmps j = some b := by
  unfold yielded
  rw [hd, Option.bind_some, h]
theorem wanted_skp {ops : Array Oper} {o : Oper} {tmps : Array Value} {j d : Nat} {want : Bool} (hg : o.guard = some (j, want)) (hd : (ops[j]?).bind (·.dst) = some d) (h : tmps[d]? = some undef) : Region.wanted o (yielded ops tmps) = false := by
  have hy : yielded ops tmps j = none := by
    unfold yielded
    rw [hd, Option.bind_some, h]
    rfl
  simp [Region.wanted, hg, hy]
theorem put_size (a : Act) (d : Option Tmp) (v : Value) : (a.put d v).tmps.size = a.tmps.size := by cases d <;> simp [Act.put]
theorem appendZ_core {w : World} {Fz : Nat → Prop} {gs : List Gh} {tbl : List Slot} {R : Type} (rel : Rel C S w Fz gs tbl) {K : Ent → List Slot → Option R} {r : R} {t u ty e : TypeId} {A B : Value} {nn : Bool} {k0 kk : IntKind} {n : Ty.T (.int kk)} (hA : RepE C S w Fz gs (.one (.emp nn)) A) (hB : RepE C S w Fz gs (.one (.val (.int kk) n)) B)
    (he : elemT P t = some e) (hu : P.underlying u = some (.int k0)) {sz by_ : Nat} {z : Ent} {k : Ty} (hsz : sizeT P e = some sz) (hby : bytesT P e = some by_) (hz : zeroEnt P e = some z) (hk : tyOf P C 9 e = some k) {x : k.T} {s0 : List Slot} (him : implode1 k z.cells tbl = some (x, s0))
    (c1 : k.size = sz) (c2 : z.cells.length = sz) (c3 : 0 < sz) (c4 : 0 < by_) (l1 : 0 < (show Int from n)) (l3 : (show Int from n) * (by_ : Int) ≤ 140737488355328) (h : K (.one (.arr s0.length)) (s0 ++ [.arr e k (List.replicate (show Int from n).toNat x)]) = some r) :
    Did P C S w Fz gs ((Builtin.append_ #[t, u] ty #[A, B]).run P w) K r := by
  obtain ⟨n, rfl⟩ : ∃ m : Int, m = n := ⟨n, rfl⟩
  have l1 : (0 : Int) < n := l1
  have l3 : n * (by_ : Int) ≤ 140737488355328 := l3
  obtain ⟨m, rfl⟩ : ∃ m : Nat, n = m := ⟨n.toNat, by omega⟩
  obtain ⟨i, zv, hi, hz0, hzv, _⟩ := zero_run hz
  obtain ⟨i1, hi1, hs1⟩ := sizeT_info hsz
  obtain ⟨i2, hi2, hs2⟩ := bytesT_info hby
  obtain rfl : i = i1 := Option.some.inj (hi.symm.trans hi1)
  obtain rfl : i = i2 := Option.some.inj (hi.symm.trans hi2)
  obtain ⟨a0, rfl, _⟩ := hA
  obtain rfl : B = .int kk m := by simpa [RepE, RepV, RepL, RepT] using hB
  have hzs : zv.cells.size = k.size := by rw [zero_size hzv, c2, c1]
  have hcells : RepLs C S w Fz gs z.cells zv.cells.toList := by rw [hzv]; exact entOf_cells zv
  obtain ⟨F1, g1, r1, s1, x1, hx⟩ := implode1_ok gs.length rel hcells him
  have hpos : 0 < zv.cells.size := by omega
  have l3n : m * i.bytes ≤ 140737488355328 := by
    have : ((m * i.bytes : Nat) : Int) ≤ 140737488355328 := by rw [Int.natCast_mul, hs2]; exact l3
    omega
  have hmb : m ≤ m * i.bytes := Nat.le_mul_of_pos_right _ (by omega)
  have hsmall : 0 + m ≤ maxLen := by simp only [maxLen]; omega
  have hrun := Lib.run_append_grow_zeros (P := P) w t u ty e i zv kk k0 (elemT_und he) hu hi hz0 a0 0 0 [] (by cases a0 with | none => rfl | some ad => exact run_firstCells_some w.drew i.size 0 ad 0 0 [] (by simp) (by simp)) m (by omega) (by omega) (by omega) (by omega) (by omega) (growslice_fits (by omega) (by simpa using l3n))
  have hge := grownCap_ge w (0 + m) 0 e
  have hle := grownCap_le_maxLen w (0 + m) 0 e hsmall
  have hzc : ∀ q, Builtin.zeroCells zv.cells q = madeCells zv.cells (q * zv.cells.size) := fun q => rfl
  obtain ⟨r2, s2⟩ := r1.newArr ((More.drew w).trans (More.alloc w.drew (.cells (([] : List Value).toArray ++ Builtin.zeroCells zv.cells m ++ Builtin.zeroCells zv.cells (grownCap w (0 + m) 0 e - (0 + m))) e))) e k (List.replicate m x) (cap := grownCap w (0 + m) 0 e) (cur := ([] : List Value).toArray ++ Builtin.zeroCells zv.cells m ++ Builtin.zeroCells zv.cells (grownCap w (0 + m) 0 e - (0 + m))) (rep_replicate hx m) (by simp only [List.length_replicate]; omega) hle (heap_alloc_new w.drew _) (by
      simp only [Array.size_append, List.size_toArray, List.length_nil, size_zeroCells, hzs]
      have e1 := Nat.add_mul m (grownCap w (0 + m) 0 e - (0 + m)) k.size
      rw [show m + (grownCap w (0 + m) 0 e - (0 + m)) = grownCap w (0 + m) 0 e by omega] at e1
      omega) (by
      simp only [Array.toList_append, List.nil_append]
      rw [hzc m, madeCells_flat _ hpos, List.length_replicate]
      refine List.take_left' ?_
      rw [← madeCells_flat zv.cells hpos, Array.length_toList, size_madeCells, hzs])
  refine ⟨_, _, F1, _, .one (.arr s0.length), _, ?_, r2, arr_rep (last_at r1.len _) rfl, s1.trans (s2.le (ext_le x1)), h⟩
  rw [hrun, List.length_replicate, Nat.zero_add]
theorem appendZ_ok {w : World} {Fz : Nat → Prop} {gs : List Gh} {tbl : List Slot} {R : Type} (rel : Rel C S w Fz gs tbl) {K : Ent → List Slot → Option R} {r : R} {t u ty : TypeId} {a b : Ent} {A B : Value} (hA : RepE C S w Fz gs a A) (hB : RepE C S w Fz gs b B) (h : appendZE P C t u a b tbl K = some r) :
    Did P C S w Fz gs ((Builtin.append_ #[t, u] ty #[A, B]).run P w) K r := by
  unfold appendZE at h
  split at h
  · rename_i e k0 nn kk n he hu
    split at h
    · rename_i sz by_ z k hsz hby hz hk
      split at h
      · rename_i x s0 him
        split at h
        · rename_i hc
          obtain ⟨c1, c2, c3, c4⟩ := hc
          split at h
          · rename_i hl
            obtain ⟨l1, l3⟩ := hl
            exact appendZ_core rel hA hB he hu hsz hby hz hk him c1 c2 c3 c4 l1 l3 h
          · cases h
        · cases h
      · cases h
    · cases h
  · cases h
theorem opB_ok {a : Act} {w : World} {Fz : Nat → Prop} {gs : List Gh} {o : Oper} {re : List Nat} {K : Ent → List Slot → Option R} {r : R} {next : Act → World → Prop} {Q : Exit → Act → World → Prop} (ok : CfgOk P C S) (hO : ∀ f sp, sp ∈ O f → SpecOk P C S f sp) {σ : St} (rel : Rel C S w Fz gs σ.s) (ht : Tmps C S w Fz gs σ.t a.tmps) (h : opB P C O re o σ K = some r) (hn : Next C S w Fz gs K r (fun v w' => next (a.put o.dst v) w')) : o.wp P a w next Q := by
  unfold opB at h
  split at h
  · rename_i op t x y yt hop
    split at h
    · rename_i el e ty l ht' hx hy
      have hA := ev_rep ht x
      have hB := ev_rep ht y
      rw [hx] at hA
      rw [hy] at hB
      obtain ⟨q, hq, h2⟩ := hB
      obtain rfl := h2 rfl
      have hA : RepT C S w Fz (.slice e ty) l [a.eval x] := hA
      obtain ⟨ad, cap, xs, h3, h4, h5, h6⟩ := hA
      have h3 : a.eval x = .slice ad (List.length l) cap := by simpa using h3
      have heq : (Op.equal t (a.eval x) (a.eval y)).run P w = .ok ad.isNone w := by
        rw [h3, hq]
        refine equal_step fun d => ?_
        unfold Op.equalIn
        rw [Sem.run_bind, run_underlying ht']
        cases ad <;> rfl
      have he := bin_of_equal (A := a.eval x) (B := a.eval y) (t := t) (by rw [h3]; simp) (by rw [hq]; simp) heq
      have key : ∀ b, b = ad.isNone → eqOp op b (fun e => K e σ.s) = some r → o.wp P a w next Q := by
        intro b hb hk
        subst hb
        have := eqOp_ok (C := C) (S := S) (Fz := Fz) (gs := gs) hk (fun op => guard_plain (op := op) (t := t) (x := x) (y := y) (A := a.eval x) (B := a.eval y) (w := w) (P := P) (fun e => by rw [h3] at e; cases e.1) (by intro c hc; rw [h3] at hc; cases hc)) he.1 he.2
        exact wp_value (s := do eqGuard op t x y (a.eval x) (a.eval y); binOp op t (a.eval x) (a.eval y)) (by unfold execOp; rw [hop]) (Did.same rel this) hn
      split at h
      · unfold both at h
        split at h
        · rename_i hh
          cases hb : ad.isNone with
          | true => exact key true hb.symm h
          | false => exact key false hb.symm (Eq.trans (Eq.symm hh) h)
        · cases h
      · rename_i hne
        refine key false ?_ h
        rcases h6 with h6 | ⟨ad', h6, _⟩
        · exfalso
          apply hne
          have hlen := Reps.length (fun _ _ q => RepT.size q) h5
          rw [h6] at hlen
          have hz : List.length l * ty.size = 0 := hlen.symm
          rcases Nat.mul_eq_zero.1 hz with hz | hz
          · rw [List.eq_nil_of_length_eq_zero hz]; rfl
          · rw [hz]; simp
        · rw [h6]; rfl
    · exact opE_ok ok hO rel ht h hn
  · rename_i c hop
    split at h
    · rename_i x t hc e1 e2
      split at h
      · rename_i el b ht2 hx
        have hA := ev_rep ht x
        rw [hx] at hA
        obtain ⟨a0, h3, _⟩ := hA
        refine wp_value (s := Builtin.cap_ #[t] o.type #[a.eval x]) ?_ (Did.same rel ⟨_, _, by rw [h3]; simp [Builtin.cap_, run_underlying ht2]; rfl, goI_rep 0, h⟩) hn
        unfold execOp
        rw [hop]
        have : c.args.map a.eval = #[a.eval x] := by rw [args1 e1]; simp
        simp [resolve, hc, invoke, this, args1 e2]
        rfl
      · cases h
    · rename_i x y t u hc e1 e2
      split at h
      · refine wp_value (s := Builtin.append_ #[t, u] o.type #[a.eval x, a.eval y]) ?_ (appendZ_ok rel (ev_rep ht x) (ev_rep ht y) h) hn
        unfold execOp
        rw [hop]
        have : c.args.map a.eval = #[a.eval x, a.eval y] := by rw [args2 e1]; simp
        simp [resolve, hc, invoke, this, args2' e2]
        rfl
      · split at h
        · refine wp_value (s := Builtin.append_ #[t, u] o.type #[a.eval x, a.eval y]) ?_ (appendS_ok rel (ev_rep ht x) (ev_rep ht y) h) hn
          unfold execOp
          rw [hop]
          have : c.args.map a.eval = #[a.eval x, a.eval y] := by rw [args2 e1]; simp
          simp [resolve, hc, invoke, this, args2' e2]
          rfl
        · exact opE_ok ok hO rel ht h hn
    · exact opE_ok ok hO rel ht h hn
  · exact opE_ok ok hO rel ht h hn
theorem runOps_ok {re : List Nat} {nt : Nat} (ok : CfgOk P C S) (hO : ∀ f sp, sp ∈ O f → SpecOk P C S f sp) {ops : Array Oper} {Q : Exit → Act → World → Prop} {K : St → Option R} {r : R}
    (hQ : ∀ σ a w Fz gs, Inv C S nl w0 F0 g0 σ a w Fz gs → a.tmps.size = nt → K σ = some r → Q .normal a w) : ∀ (l : List Nat) (σ : St) (a : Act) (w : World) (Fz : Nat → Prop) (gs : List Gh), Inv C S nl w0 F0 g0 σ a w Fz gs → a.tmps.size = nt → runOps P C O re ops l σ K = some r → wpOps P ops Q l a w
  | [], σ, a, w, Fz, gs, i, hnt, h => hQ σ a w Fz gs i hnt h
  | q :: rest, σ, a, w, Fz, gs, i, hnt, h => by
    simp only [runOps] at h
    simp only [wpOps]
    cases ho : ops[q]? with
    | none =>
      rw [ho] at h
      exact runOps_ok ok hO hQ rest σ a w Fz gs i hnt h
    | some o =>
      rw [ho] at h
      simp only at h ⊢
      have main : ∀ (σ' : St), Inv C S nl w0 F0 g0 σ' a w Fz gs → opB P C O re o σ' (fun e s => runOps P C O re ops rest (σ'.set o.dst e s) K) = some r → o.wp P a w (wpOps P ops Q rest) Q := by
        intro σ' i' h'
        refine opB_ok ok hO i'.rel i'.tmps h' ?_
        intro v w' Fz' gs' e s' h1 h2 h3 h4
        exact runOps_ok ok hO hQ rest _ _ w' Fz' gs' (i'.next h1 h2 h3 o.dst) (by rw [put_size]; exact hnt) h4
      have skip : ∀ (σ' : St), Inv C S nl w0 F0 g0 σ' a w Fz gs → runOps P C O re ops rest (σ'.set o.dst (.one .skp) σ'.s) K = some r → wpOps P ops Q rest (a.put o.dst undef) w := by
        intro σ' i' h'
        exact runOps_ok ok hO hQ rest _ _ w Fz gs (i'.next (e := .one .skp) i'.rel rfl (Step.refl _ _ _ _) o.dst) (by rw [put_size]; exact hnt) h'
      split at h
      · rename_i hg
        rw [if_pos (by simp [Region.wanted, hg])]
        exact .inl (main σ i h)
      · rename_i j want hg
        split at h
        · rename_i d hd
          split at h
          · rename_i b hb
            obtain ⟨v, hv, hr⟩ := i.tmps.get d _ hb
            obtain rfl : v = .bool b := by simpa [RepE, RepV, RepL, RepT] using hr
            have hy := yielded_eq hd hv
            have hw : Region.wanted o (yielded ops a.tmps) = (b == want) := by simp [Region.wanted, hg, hy]
            have hgd : a.tmps.getD d undef = .bool b := by rw [Array.getD_eq_getD_getElem?, hv]; rfl
            have i' : ∀ b', b = b' → Inv C S nl w0 F0 g0 ⟨σ.t.set d (goB b'), σ.s⟩ a w Fz gs := fun b' e => ⟨i.rel, i.tmps.tell d (by rw [hgd, e]; exact goB_rep b'), i.defers, i.step, i.le⟩
            cases b with
            | true =>
              simp only [if_true] at h
              cases want with
              | true =>
                rw [if_pos (by rw [hw]; rfl)]
                exact .inl (main _ (i' true rfl) h)
              | false =>
                rw [if_neg (by rw [hw]; simp)]
                exact skip _ (i' true rfl) h
            | false =>
              simp only [Bool.false_eq_true, if_false] at h
              cases want with
              | true =>
                rw [if_neg (by rw [hw]; simp)]
                exact skip _ (i' false rfl) h
              | false =>
                rw [if_pos (by rw [hw]; rfl)]
                exact .inl (main _ (i' false rfl) h)
          · rename_i hb
            obtain ⟨v, hv, hr⟩ := i.tmps.get d _ hb
            obtain rfl : v = undef := hr
            have hw : Region.wanted o (yielded ops a.tmps) = false := wanted_skp hg hd hv
            rw [if_neg (by rw [hw]; simp)]
            exact skip _ i h
          · cases h
        · cases h

/-! ### shapes at a place of the code -/
theorem RepEs.live {w : World} {Fz : Nat → Prop} {gs : List Gh} {t : List Ent} {tmps : Array Value} (r : Tmps C S w Fz gs t tmps) : ∀ (live : List Nat), RepEs C S w Fz gs (live.map fun d => t.getD d (.one .undef)) (live.map fun d => tmps.getD d undef)
  | [] => rfl
  | d :: live => ⟨_, _, rfl, r.at_ d, RepEs.live r live⟩
theorem setAll_ok {w : World} {Fz : Nat → Prop} {gs : List Gh} {tmps : Array Value} : ∀ (live : List Nat) (es : List Ent) (t : List Ent), Tmps C S w Fz gs t tmps → RepEs C S w Fz gs es (live.map fun d => tmps.getD d undef) → Tmps C S w Fz gs (setAll t live es) tmps
  | [], es, t, ht, hr => by
    cases es with
    | nil => exact ht
    | cons e es => obtain ⟨v, vs, h, _⟩ := hr; cases h
  | d :: live, [], t, ht, hr => by cases hr
  | d :: live, e :: es, t, ht, ⟨v, vs, h1, h2, h3⟩ => by
    simp only [List.map_cons, List.cons.injEq] at h1
    obtain ⟨h1, rfl⟩ := h1
    exact setAll_ok live es _ (ht.tell d (by rw [h1]; exact h2)) h3
theorem selD_step {sh : List SSh} {m : List Nat} {w : World} {Fz : Nat → Prop} {gs : List Gh} (n : Nat) (hm : ∀ s ∈ m, s < gs.length) (hn : ∀ i, i < n → m[i]? = some i) : Step n w Fz gs w Fz (selD sh m gs) :=
  ⟨rfl, rfl, rfl, Nat.le_refl _, fun _ _ _ => rfl, fun _ h => h, fun _ h => .inl h, fun i g b hi hb => by
    obtain ⟨s, g1, h1, h2, h3, h4⟩ := selD_of hm hi
    rcases h4 with h4 | rfl
    · rw [h4] at hb; cases hb
    · exact .inr ⟨s, g, h2, hb⟩, fun i g hi hg => by
    rcases selD_get (sh := sh) (hn i hi) hg with ⟨_, h⟩ | ⟨_, h⟩
    · exact ⟨_, h, rfl⟩
    · exact ⟨_, h, rfl⟩⟩
theorem conf_inv {h : Sh} {es : List Ent} {vs : List Value} {x : h.T} {c : CS} {σ : St} {a : Act} {w : World} {Fz : Nat → Prop} {gs : List Gh} (i : Inv C S nl w0 F0 g0 σ a w Fz gs) (hr : RepEs C S w Fz gs es vs) (hc : conf h es (List.range nl) σ.s = some (x, c)) :
    ∃ Fz' gs', Rel C S w Fz' gs' (packSs h.ss x.2) ∧ RepEs C S w Fz' gs' (packEs h.es x.1) vs ∧ Step nl w0 F0 g0 w Fz' gs' ∧ nl ≤ gs'.length := by
  obtain ⟨F1, g1, r1, s1, hp, ok, hlen, hes, rc⟩ := conf_ok i.rel List.nodup_range (fun s hs => by have := List.mem_range.1 hs; have := i.le; rw [i.rel.len] at this; omega) hr hc
  have hm : ∀ q, q < nl → c.m[q]? = some q := fun q hq => pre_get hp (by simp [hq])
  refine ⟨F1, _, rc, hes, (i.step.trans (s1.le i.le)).trans (selD_step nl (ok.gl r1) hm), ?_⟩
  rw [selD_len]
  have := hp.length_le
  simpa using this
theorem confAt_ok {live : List Nat} {h : Sh} {x : h.T} {σ : St} {a : Act} {w : World} {Fz : Nat → Prop} {gs : List Gh} (i : Inv C S nl w0 F0 g0 σ a w Fz gs) {nt : Nat} (hnt : a.tmps.size = nt) (hc : confAt nl live h σ = some x) :
    ∃ Fz' gs', Inv C S nl w0 F0 g0 (packAt nt live h x) a w Fz' gs' := by
  unfold confAt at hc
  split at hc
  · rename_i y c he
    obtain rfl := Option.some.inj hc
    obtain ⟨F1, g1, r1, e1, s1, l1⟩ := conf_inv i (RepEs.live i.tmps live) he
    refine ⟨F1, g1, r1, ?_, i.defers, s1, l1⟩
    refine setAll_ok live _ _ ⟨by simp [hnt], fun q e hq => ?_⟩ e1
    have hlt : q < nt := by have := (List.getElem?_eq_some_iff.1 hq).1; simpa using this
    rw [List.getElem?_replicate, if_pos hlt] at hq
    obtain rfl := Option.some.inj hq
    exact ⟨a.tmps[q]'(by omega), Array.getElem?_eq_getElem (by omega), trivial⟩
  · cases hc
theorem encOut_ok {nt : Nat} {K : Ex → St → Option R} {r : R} : ∀ {outs : List Out} {e : Ex} {σ : St} {y : OutT outs} {a : Act} {w : World} {Fz : Nat → Prop} {gs : List Gh}, Inv C S nl w0 F0 g0 σ a w Fz gs → a.tmps.size = nt → encOut nl outs e σ = some y → decOut nt outs y K = some r →
    ∃ σ' Fz' gs', Inv C S nl w0 F0 g0 σ' a w Fz' gs' ∧ K e σ' = some r
  | [], e, σ, y, a, w, Fz, gs, i, hnt, h, hd => by cases h
  | o :: outs, e, σ, y, a, w, Fz, gs, i, hnt, h, hd => by
    simp only [encOut] at h
    split at h
    · rename_i he
      subst he
      split at h
      · rename_i x hx
        obtain rfl := Option.some.inj h
        obtain ⟨F1, g1, i1⟩ := confAt_ok i hnt hx
        exact ⟨_, F1, g1, i1, hd⟩
      · split at h
        · rename_i y' hy
          obtain rfl := Option.some.inj h
          exact encOut_ok i hnt hy hd
        · cases h
    · split at h
      · rename_i y' hy
        obtain rfl := Option.some.inj h
        exact encOut_ok i hnt hy hd
      · cases h

/-! ### loops, by their rounds -/
theorem wp_loop_k {c : Code} {Q : Exit → Act → World → Prop} (J : Nat → Act → World → Prop) (round : ∀ k a w, J k a w → c.wp P (Exit.then (fun a' w' => ∃ k', k' < k ∧ J k' a' w') Q) a w) {k : Nat} {a : Act} {w : World} (h0 : J k a w) : (Code.loop c).wp P Q a w := by
  intro b kk cs
  have key : ∀ n a w, J n a w → ∃ e a' w', Q e a' w' ∧ Arrives P (lone (b.at a (.code c :: .inLoop c :: kk)) cs w) b kk cs e a' w' := by
    intro n
    induction n using Nat.strongRecOn with
    | _ n ih =>
      intro a w hJ
      obtain ⟨e, a₁, w₁, hq, harr⟩ := round n a w hJ b (.inLoop c :: kk) cs
      cases e with
      | normal =>
        obtain ⟨k', hlt, hJ'⟩ := hq
        obtain ⟨e₂, a₂, w₂, hq₂, harr₂⟩ := ih k' hlt a₁ w₁ hJ'
        exact ⟨e₂, a₂, w₂, hq₂, .of_steps (Steps.trans harr (.one step_inLoop)) harr₂⟩
      | exit id => exact ⟨_, a₁, w₁, hq, .pass (x := .inLoop c) rfl (fun _ _ => .inl (by simp)) harr⟩
      | goto l => exact ⟨_, a₁, w₁, hq, .pass (x := .inLoop c) rfl (fun _ _ => .inl (by simp)) harr⟩
      | ret => exact ⟨_, a₁, w₁, hq, .pass (x := .inLoop c) rfl (fun _ _ => .inl (by simp)) harr⟩
      | panic ch => exact ⟨_, a₁, w₁, hq, .pass (x := .inLoop c) rfl (fun _ _ => .inl (by simp)) harr⟩
      | outgrown => exact ⟨_, a₁, w₁, hq, .pass (x := .inLoop c) rfl (fun _ _ => .inl (by simp)) harr⟩
  obtain ⟨e, a', w', hq, harr⟩ := key k a w h0
  exact ⟨e, a', w', hq, .of_steps (.one step_loop) harr⟩
def exOf : Ex → Exit
  | .normal => .normal
  | .exit id => .exit id
  | .ret => .ret
def Post (C : Cfg) (S : Nat → Addr) (nl nt : Nat) (w0 : World) (F0 : Nat → Prop) (g0 : List Gh) (K : Ex → St → Option R) (r : R) (e : Exit) (a : Act) (w : World) : Prop :=
  ∃ ex σ Fz gs, e = exOf ex ∧ Inv C S nl w0 F0 g0 σ a w Fz gs ∧ a.tmps.size = nt ∧ K ex σ = some r
/-- What is asked of the hints. -/
def CutOk (P : Program) (C : Cfg) (O : FuncId → List FSpec) (n nl nt : Nat) (H : Hints) (h : Hint) (a : Code) : Prop := ∀ x, h.L n x = interp P C O n nl nt H a (packAt nt h.live h.sh x) (fun e σ => encOut nl h.outs e σ)
def LoopOk (P : Program) (C : Cfg) (O : FuncId → List FSpec) (n nl nt : Nat) (H : Hints) (h : Hint) (c : Code) : Prop :=
  (∀ x, h.L 0 x = none) ∧ ∀ k x, h.L (k + 1) x = interp P C O n nl nt H c (packAt nt h.live h.sh x) (fun e σ => match e with
    | .normal => (match confAt nl h.live h.sh σ with | some x => h.L k x | none => none)
    | e => encOut nl h.outs e σ)
/-- Three parts behind one another that are told by hand. -/
def HandOk (P : Program) (C : Cfg) (n nl nt : Nat) (h : Hint) (a b1 b2 : Code) : Prop :=
  ∀ (S : Nat → Addr), CfgOk P C S → ∀ (x : h.sh.T) (y : OutT h.outs) (w0 : World) (F0 : Nat → Prop) (g0 : List Gh) (act : Act) (w : World) (Fz : Nat → Prop) (gs : List Gh),
    Inv C S nl w0 F0 g0 (packAt nt h.live h.sh x) act w Fz gs → act.tmps.size = nt → h.L n x = some y →
    a.wp P (Exit.then (b1.wp P (Exit.then (b2.wp P (Post C S nl nt w0 F0 g0 (fun e σ => encOut nl h.outs e σ) y)) (Post C S nl nt w0 F0 g0 (fun e σ => encOut nl h.outs e σ) y))) (Post C S nl nt w0 F0 g0 (fun e σ => encOut nl h.outs e σ) y)) act w
def HandP (P : Program) (C : Cfg) (n nl nt : Nat) (H : Hints) (a b : Code) : Prop :=
  match H.hand (keyOf a), b with
  | some h, .seq b1 (.seq b2 b3) => HandOk P C n nl nt h a b1 b2
  | _, _ => True
def Obl (P : Program) (C : Cfg) (O : FuncId → List FSpec) (n nl nt : Nat) (H : Hints) : Code → Prop
  | .seq a b => (match H.cut (keyOf b) with | some h => CutOk P C O n nl nt H h a | none => True) ∧ HandP P C n nl nt H a b ∧ Obl P C O n nl nt H a ∧ Obl P C O n nl nt H b
  | .cond _ a b => Obl P C O n nl nt H a ∧ Obl P C O n nl nt H b
  | .block _ c => Obl P C O n nl nt H c
  | .loop c => (match H.loop (keyOf c) with | some h => LoopOk P C O n nl nt H h c ∧ (match H.loop2 (keyOf c) with | some h => LoopOk P C O n nl nt H h c | none => True) | none => True) ∧ Obl P C O n nl nt H c
  | _ => True
end
end Go.Proofs.YtnajjhjbkanigaaDoor.Cm
