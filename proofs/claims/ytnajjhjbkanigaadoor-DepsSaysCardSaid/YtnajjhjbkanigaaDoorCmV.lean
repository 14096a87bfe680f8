/- Code as plain functions: a function does what its plain function says. By this session. -/
import Derived.Test.YtnajjhjbkanigaaDoorCmZ
namespace Go.Proofs.YtnajjhjbkanigaaDoor.Cm
open Go
set_option linter.unusedVariables false
set_option linter.unusedSimpArgs false
section
variable {P : Program} {C : Cfg} {S : Nat → Addr} {O : FuncId → List FSpec} {nl : Nat} {w0 : World} {F0 : Nat → Prop} {g0 : List Gh}
theorem interp_seq {R : Type} {n nt : Nat} {H : Hints} (a b : Code) (σ : St) (K : Ex → St → Option R) : interp P C O n nl nt H (.seq a b) σ K =
    match H.cut (keyOf b) with
    | some h =>
      match confAt nl h.live h.sh σ with
      | some x =>
        match h.L n x with
        | some y => decOut nt h.outs y fun e σ => match e with | .normal => interp P C O n nl nt H b σ K | e => K e σ
        | none => none
      | none => none
    | none =>
      match H.hand (keyOf a), b with
      | some h, .seq b1 (.seq b2 b3) =>
        match confAt nl h.live h.sh σ with
        | some x =>
          match h.L n x with
          | some y => decOut nt h.outs y fun e σ => match e with | .normal => interp P C O n nl nt H b3 σ K | e => K e σ
          | none => none
        | none => none
      | _, _ => interp P C O n nl nt H a σ fun e σ => match e with | .normal => interp P C O n nl nt H b σ K | e => K e σ := by
  cases hh : H.hand (keyOf a) with
  | none =>
    cases b with
    | seq b1 b' =>
      cases b' with
      | seq b2 b3 => simp only [interp, hh, keyOf]; rfl
      | _ => rfl
    | _ => rfl
  | some h =>
    cases b with
    | seq b1 b' =>
      cases b' with
      | seq b2 b3 => simp only [interp, hh, keyOf]; rfl
      | _ => rfl
    | _ => rfl
theorem interp_ok (ok : CfgOk P C S) (hO : ∀ f sp, sp ∈ O f → SpecOk P C S f sp) {n nt : Nat} {H : Hints} : ∀ (c : Code), Obl P C O n nl nt H c → ∀ {R : Type} {K : Ex → St → Option R} {r : R} {σ : St} {a : Act} {w : World} {Fz : Nat → Prop} {gs : List Gh},
    Inv C S nl w0 F0 g0 σ a w Fz gs → a.tmps.size = nt → interp P C O n nl nt H c σ K = some r → c.wp P (Post C S nl nt w0 F0 g0 K r) a w
  | .skip, ob, R, K, r, σ, a, w, Fz, gs, i, hnt, h => wp_skip ⟨.normal, σ, Fz, gs, rfl, i, hnt, h⟩
  | .exit id, ob, R, K, r, σ, a, w, Fz, gs, i, hnt, h => wp_exit ⟨.exit id, σ, Fz, gs, rfl, i, hnt, h⟩
  | .ret, ob, R, K, r, σ, a, w, Fz, gs, i, hnt, h => wp_ret ⟨.ret, σ, Fz, gs, rfl, i, hnt, h⟩
  | .region id ops draw, ob, R, K, r, σ, a, w, Fz, gs, i, hnt, h => by
    simp only [interp] at h
    cases draw with
    | true =>
      simp only [if_true] at h
      split at h
      · rename_i hst
        obtain ⟨F1, g1, i1⟩ := frzTs_ok (H.pre id) i
        exact draw_ok (K := fun σ => K .normal σ) ok.mix ok hO i1 hnt hst h (fun σ' a' w' Fz' gs' i' hnt' h' => ⟨.normal, σ', Fz', gs', rfl, i', hnt', h'⟩)
      · cases h
    | false =>
      refine wp_region (runOps_ok (Q := Post C S nl nt w0 F0 g0 K r) ok hO (K := fun σ => K .normal σ) (fun σ' a' w' Fz' gs' i' hnt' h' => ⟨.normal, σ', Fz', gs', rfl, i', hnt', h'⟩) _ σ a w Fz gs i hnt h)
  | .seq x y, ob, R, K, r, σ, a, w, Fz, gs, i, hnt, h => by
    obtain ⟨o1, o4, o2, o3⟩ := ob
    have key : ∀ (K1 : Ex → St → Option R) (a : Act) (w : World), (∀ e σ, K1 e σ = (match e with | .normal => interp P C O n nl nt H y σ K | e => K e σ)) → x.wp P (Post C S nl nt w0 F0 g0 K1 r) a w → (Code.seq x y).wp P (Post C S nl nt w0 F0 g0 K r) a w := by
      intro K1 a w hK hx
      refine wp_seq (wp_mono hx fun e a' w' ⟨ex, σ', Fz', gs', he, i', hnt', hk⟩ => ?_)
      rw [hK] at hk
      cases ex with
      | normal => subst he; exact interp_ok ok hO y o3 i' hnt' hk
      | exit id => subst he; exact ⟨.exit id, σ', Fz', gs', rfl, i', hnt', hk⟩
      | ret => subst he; exact ⟨.ret, σ', Fz', gs', rfl, i', hnt', hk⟩
    rw [interp_seq] at h
    split at h
    · rename_i hh hc
      rw [hc] at o1
      split at h
      · rename_i x' hx
        split at h
        · rename_i y' hy
          obtain ⟨F1, g1, i1⟩ := confAt_ok i hnt hx
          rw [o1 x'] at hy
          have h2 := interp_ok ok hO x o2 i1 hnt hy
          refine key _ a w (fun _ _ => rfl) (wp_mono h2 fun e a' w' ⟨ex, σ', Fz', gs', he, i', hnt', hk⟩ => ?_)
          obtain ⟨σ2, F2, g2, i2, hk2⟩ := encOut_ok i' hnt' hk h
          exact ⟨ex, σ2, F2, g2, he, i2, hnt', hk2⟩
        · cases h
      · cases h
    · split at h
      · rename_i hh b1 b2 b3 hhe _
        obtain ⟨_, _, _, _, _, _, o5⟩ := o3
        unfold HandP at o4
        rw [hhe] at o4
        split at h
        · rename_i x' hx
          split at h
          · rename_i y' hy
            obtain ⟨F1, g1, i1⟩ := confAt_ok i hnt hx
            have h2 := o4 S ok x' y' w0 F0 g0 a w F1 g1 i1 hnt hy
            have fin : ∀ (e : Exit) (a' : Act) (w' : World), Post C S nl nt w0 F0 g0 (fun e σ => encOut nl hh.outs e σ) y' e a' w' → Exit.then (b3.wp P (Post C S nl nt w0 F0 g0 K r)) (Post C S nl nt w0 F0 g0 K r) e a' w' := by
              rintro e a' w' ⟨ex, σ', Fz', gs', he, i', hnt', hk⟩
              obtain ⟨σ2, F2, g2, i2, hk2⟩ := encOut_ok i' hnt' hk h
              cases ex with
              | normal => subst he; exact interp_ok ok hO b3 o5 i2 hnt' hk2
              | exit id => subst he; exact ⟨.exit id, σ2, F2, g2, rfl, i2, hnt', hk2⟩
              | ret => subst he; exact ⟨.ret, σ2, F2, g2, rfl, i2, hnt', hk2⟩
            have out : ∀ (e : Exit) (a' : Act) (w' : World), e ≠ .normal → Post C S nl nt w0 F0 g0 (fun e σ => encOut nl hh.outs e σ) y' e a' w' → Post C S nl nt w0 F0 g0 K r e a' w' := by
              intro e a' w' hne hp
              have := fin e a' w' hp
              cases e with
              | normal => exact absurd rfl hne
              | exit id => exact this
              | goto l => exact this
              | ret => exact this
              | panic ch => exact this
              | outgrown => exact this
            refine wp_seq (wp_mono h2 fun e a1 w1 he => ?_)
            cases e with
            | normal =>
              refine wp_seq (wp_mono he fun e a2 w2 he2 => ?_)
              cases e with
              | normal => exact wp_seq (wp_mono he2 fin)
              | exit id => exact out _ _ _ (by simp) he2
              | goto l => exact out _ _ _ (by simp) he2
              | ret => exact out _ _ _ (by simp) he2
              | panic ch => exact out _ _ _ (by simp) he2
              | outgrown => exact out _ _ _ (by simp) he2
            | exit id => exact out _ _ _ (by simp) he
            | goto l => exact out _ _ _ (by simp) he
            | ret => exact out _ _ _ (by simp) he
            | panic ch => exact out _ _ _ (by simp) he
            | outgrown => exact out _ _ _ (by simp) he
          · cases h
        · cases h
      · exact key _ a w (fun _ _ => rfl) (interp_ok ok hO x o2 i hnt h)
  | .cond c x y, ob, R, K, r, σ, a, w, Fz, gs, i, hnt, h => by
    obtain ⟨o1, o2⟩ := ob
    simp only [interp] at h
    have hc := ev_rep i.tmps c
    split at h
    · rename_i b he
      rw [he] at hc
      have hv : a.eval c = .bool b := by simpa [RepE, RepV, RepL, RepT] using hc
      refine wp_cond hv ?_
      cases b with
      | true => exact interp_ok ok hO x o1 i hnt h
      | false => exact interp_ok ok hO y o2 i hnt h
    · cases h
  | .block id c, ob, R, K, r, σ, a, w, Fz, gs, i, hnt, h => by
    simp only [interp] at h
    refine wp_block (wp_mono (interp_ok ok hO c ob i hnt h) fun e a' w' ⟨ex, σ', Fz', gs', he, i', hnt', hk⟩ => ?_)
    cases ex with
    | normal => subst he; exact ⟨.normal, σ', Fz', gs', rfl, i', hnt', hk⟩
    | exit j =>
      subst he
      simp only at hk
      show (if j = id then Post C S nl nt w0 F0 g0 K r .normal a' w' else Post C S nl nt w0 F0 g0 K r (.exit j) a' w')
      split at hk
      · rename_i hj
        rw [if_pos hj]
        exact ⟨.normal, σ', Fz', gs', rfl, i', hnt', hk⟩
      · rename_i hj
        rw [if_neg hj]
        exact ⟨.exit j, σ', Fz', gs', rfl, i', hnt', hk⟩
    | ret => subst he; exact ⟨.ret, σ', Fz', gs', rfl, i', hnt', hk⟩
  | .loop c, ob, R, K, r, σ, a, w, Fz, gs, i, hnt, h => by
    obtain ⟨o1, o2⟩ := ob
    simp only [interp] at h
    split at h
    · have key : ∀ hh : Hint, LoopOk P C O n nl nt H hh c → ∀ (x : hh.sh.T) (y : OutT hh.outs), confAt nl hh.live hh.sh σ = some x → hh.L n x = some y → decOut nt hh.outs y K = some r → (Code.loop c).wp P (Post C S nl nt w0 F0 g0 K r) a w := by
        rintro hh ⟨l0, l1⟩ x y hx hy h
        obtain ⟨F1, g1, i1⟩ := confAt_ok i hnt hx
        refine wp_loop_k (fun k a w => ∃ x Fz gs, Inv C S nl w0 F0 g0 (packAt nt hh.live hh.sh x) a w Fz gs ∧ a.tmps.size = nt ∧ hh.L k x = some y) ?_ ⟨x, F1, g1, i1, hnt, hy⟩
        rintro k a w ⟨x, Fz, gs, i, hnt, hL⟩
        cases k with
        | zero => rw [l0] at hL; cases hL
        | succ k =>
          rw [l1] at hL
          refine wp_mono (interp_ok ok hO c o2 i hnt hL) fun e a' w' ⟨ex, σ', Fz', gs', he, i', hnt', hk⟩ => ?_
          cases ex with
          | normal =>
            subst he
            simp only at hk
            split at hk
            · rename_i x' hx'
              obtain ⟨F2, g2, i2⟩ := confAt_ok i' hnt' hx'
              exact ⟨k, Nat.lt_succ_self k, x', F2, g2, i2, hnt', hk⟩
            · cases hk
          | exit j =>
            subst he
            obtain ⟨σ2, F2, g2, i2, hk2⟩ := encOut_ok i' hnt' hk h
            exact ⟨.exit j, σ2, F2, g2, rfl, i2, hnt', hk2⟩
          | ret =>
            subst he
            obtain ⟨σ2, F2, g2, i2, hk2⟩ := encOut_ok i' hnt' hk h
            exact ⟨.ret, σ2, F2, g2, rfl, i2, hnt', hk2⟩
      split at h
      · rename_i hh hc
        rw [hc] at o1
        obtain ⟨p1, p2⟩ := o1
        split at h
        · rename_i x hx
          split at h
          · rename_i y hy
            exact key hh p1 x y hx hy h
          · cases h
        · split at h
          · rename_i h2 hc2
            rw [hc2] at p2
            split at h
            · rename_i x hx
              split at h
              · rename_i y hy
                exact key h2 p2 x y hx hy h
              · cases h
            · cases h
          · cases h
      · cases h
    · rename_i m hm
      refine wp_loop_k (fun k a w => ∃ σ Fz gs, Inv C S nl w0 F0 g0 σ a w Fz gs ∧ a.tmps.size = nt ∧ unrollE (fun σ K => interp P C O n nl nt H c σ K) k σ K = some r) ?_ ⟨σ, Fz, gs, i, hnt, h⟩
      rintro k a w ⟨σ, Fz, gs, i, hnt, hk⟩
      cases k with
      | zero => cases hk
      | succ k =>
        simp only [unrollE] at hk
        refine wp_mono (interp_ok ok hO c o2 i hnt hk) fun e a' w' ⟨ex, σ', Fz', gs', he, i', hnt', hk'⟩ => ?_
        cases ex with
        | normal => subst he; exact ⟨k, Nat.lt_succ_self k, σ', Fz', gs', i', hnt', hk'⟩
        | exit j => subst he; exact ⟨.exit j, σ', Fz', gs', rfl, i', hnt', hk'⟩
        | ret => subst he; exact ⟨.ret, σ', Fz', gs', rfl, i', hnt', hk'⟩
  | .rangeFunc .., ob, R, K, r, σ, a, w, Fz, gs, i, hnt, h => by cases h
  | .scope .., ob, R, K, r, σ, a, w, Fz, gs, i, hnt, h => by cases h
  | .label .., ob, R, K, r, σ, a, w, Fz, gs, i, hnt, h => by cases h
  | .goto .., ob, R, K, r, σ, a, w, Fz, gs, i, hnt, h => by cases h
  | .refuse .., ob, R, K, r, σ, a, w, Fz, gs, i, hnt, h => by cases h
theorem toPart_rep {w : World} {Fz : Nat → Prop} {gs : List Gh} {e : Ent} {u : Value} (h : RepE C S w Fz gs e u) : RepV C S w Fz gs (Ent.part e.toPart) u := by
  cases e with
  | one l => exact h
  | agg cs => exact h
  | tup ps => trivial
theorem resParts_ok {σ : St} {a : Act} {w : World} {Fz : Nat → Prop} {gs : List Gh} (rel : Rel C S w Fz gs σ.s) (ht : Tmps C S w Fz gs σ.t a.tmps) {G : ResultVar → Sem Value} (hG : ∀ t, G (.tmp t) = pure (a.tmps.getD t undef)) (hG2 : ∀ x t, G (.cell x t) = (do loadVar t (← asAddr (a.tmps.getD x undef)))) :
    ∀ {rs : List ResultVar} {ps : List (Bool × List Lf)}, resParts P C σ rs = some ps → ∃ vs : List Value, (rs.mapM G).run P w = .ok vs w ∧ RepPs C S w Fz gs ps vs
  | [], ps, h => by
    obtain rfl := Option.some.inj h
    exact ⟨[], by simp, rfl⟩
  | .tmp t :: rs, ps, h => by
    simp only [resParts] at h
    split at h
    · rename_i qs hq
      obtain rfl := Option.some.inj h
      obtain ⟨vs, h1, h2⟩ := resParts_ok rel ht hG hG2 hq
      refine ⟨a.tmps.getD t undef :: vs, ?_, _, _, rfl, toPart_rep (ht.at_ t), h2⟩
      rw [List.mapM_cons, hG]
      simp only [Sem.run_bind, Sem.run_pure, Result.andThen_ok, h1]
    · cases h
  | .cell x t :: rs, ps, h => by
    simp only [resParts] at h
    split at h
    · rename_i j o hp
      split at h
      · rename_i e he
        split at h
        · rename_i qs hq
          obtain rfl := Option.some.inj h
          obtain ⟨vs, h1, h2⟩ := resParts_ok rel ht hG hG2 hq
          have hx := ht.at_ x
          rw [hp] at hx
          obtain ⟨v, e', k1, k2, k3⟩ := load_ok rel hx he
          obtain rfl := Option.some.inj k3
          obtain ⟨g, b, hg, hv, hA⟩ := hx
          rw [hA] at k1
          have k4 : (loadVar t ⟨b, o, none⟩).run P w = .ok v w := by simpa [Instr.loadAt, Instr.sureAddr] using k1
          refine ⟨v :: vs, ?_, _, _, rfl, toPart_rep k2, h2⟩
          rw [List.mapM_cons, hG2, hA]
          have k5 : (asAddr (.pointer (some ⟨b, o, none⟩))).run P w = .ok ⟨b, o, none⟩ w := by simp [asAddr]
          simp only [Sem.run_bind, Sem.run_pure, Result.andThen_ok, k5, k4, h1]
        · cases h
      · cases h
    · cases h
def resG (tmps : Array Value) (r : ResultVar) : Sem Value := match r with
  | .tmp t => pure (tmps.getD t undef)
  | .cell a t => do loadVar t (← asAddr (tmps.getD a undef))
theorem results_eq (fn : Func) (tmps : Array Value) : results fn tmps = (do let vs ← fn.results.mapM (resG tmps); pure (if h : vs.size = 1 then vs[0] else .tuple vs)) := rfl
theorem mapM_len {G : ResultVar → Sem Value} {w w' : World} : ∀ {rs : List ResultVar} {vs : List Value}, (rs.mapM G).run P w = .ok vs w' → vs.length = rs.length := by
  intro rs
  induction rs generalizing w w' with
  | nil => intro vs h; simp at h; simp [h.1]
  | cons x rs ih =>
    intro vs h
    rw [List.mapM_cons] at h
    simp only [Sem.run_bind] at h
    cases hx : (G x).run P w with
    | ok v w1 =>
      rw [hx] at h
      simp only [Result.andThen_ok] at h
      cases hr : (rs.mapM G).run P w1 with
      | ok us w2 =>
        rw [hr] at h
        simp only [Result.andThen_ok, Sem.run_pure, Result.ok.injEq] at h
        rw [← h.1, List.length_cons, List.length_cons, ih hr]
      | _ => rw [hr] at h; cases h
    | _ => rw [hx] at h; cases h
theorem retE_ok {fn : Func} {σ : St} {a : Act} {w : World} {Fz : Nat → Prop} {gs : List Gh} {R : Type} {K : Ent → Option R} {r : R} (rel : Rel C S w Fz gs σ.s) (ht : Tmps C S w Fz gs σ.t a.tmps) (h : resE P C fn σ K = some r) :
    ∃ v e, (results fn a.tmps).run P w = .ok v w ∧ RepE C S w Fz gs e v ∧ K e = some r := by
  unfold resE at h
  split at h
  · rename_i t he
    have hf : fn.results = #[.tmp t] := by apply Array.ext'; rw [he]
    exact ⟨_, _, by simp [results, hf, Array.mapM_eq_mapM_toList], ht.at_ t, h⟩
  · rename_i x t he
    have hf : fn.results = #[.cell x t] := by apply Array.ext'; rw [he]
    split at h
    · rename_i j o hp
      have hx := ht.at_ x
      rw [hp] at hx
      obtain ⟨v, e, h1, h2, h3⟩ := load_ok rel hx h
      obtain ⟨g, b, hg, hv, hA⟩ := hx
      rw [hA] at h1
      refine ⟨v, e, ?_, h2, h3⟩
      have h4 : (loadVar t ⟨b, o, none⟩).run P w = .ok v w := by simpa [Instr.loadAt, Instr.sureAddr] using h1
      have hA' : a.tmps[x]?.getD undef = .pointer (some ⟨b, o, none⟩) := by rw [← hA, Array.getD_eq_getD_getElem?]
      simp [results, hf, Array.mapM_eq_mapM_toList, hA', asAddr, h4]
    · cases h
  · rename_i hne hne2
    split at h
    · rename_i ps hps
      obtain ⟨vs, h1, h2⟩ := resParts_ok (P := P) rel ht (G := resG a.tmps) (fun _ => rfl) (fun _ _ => rfl) hps
      refine ⟨.tuple vs.toArray, .tup ps, ?_, ⟨vs, rfl, h2⟩, h⟩
      have hvl : vs.length = fn.results.size := by
        have := mapM_len h1
        rw [this, Array.length_toList]
      have hlen : fn.results.size ≠ 1 := by
        intro h1
        have : ∃ x, fn.results.toList = [x] := by
          match hl : fn.results.toList with
          | [] => rw [← Array.length_toList, hl] at h1; simp at h1
          | [x] => exact ⟨x, rfl⟩
          | _ :: _ :: _ => rw [← Array.length_toList, hl] at h1; simp at h1
        obtain ⟨x, hx⟩ := this
        cases x with
        | tmp t => exact hne t hx
        | cell a t => exact hne2 a t hx
      rw [results_eq, Array.mapM_eq_mapM_toList]
      simp only [Sem.run_bind, Sem.run_map, h1, Result.andThen_ok, Sem.run_pure]
      congr 1
      rw [dif_neg (by simp only [List.size_toArray]; omega)]
    · cases h
theorem RepEs.length {w : World} {Fz : Nat → Prop} {gs : List Gh} : ∀ {es : List Ent} {vs : List Value}, RepEs C S w Fz gs es vs → vs.length = es.length
  | [], vs, r => by rw [show vs = [] from r]; rfl
  | e :: es, vs, ⟨v, vs', h1, h2, h3⟩ => by rw [h1, List.length_cons, RepEs.length h3, List.length_cons]
theorem RepEs.nth {w : World} {Fz : Nat → Prop} {gs : List Gh} : ∀ {es : List Ent} {vs : List Value}, RepEs C S w Fz gs es vs → ∀ {i : Nat} {e : Ent}, es[i]? = some e → ∃ v, vs[i]? = some v ∧ RepE C S w Fz gs e v
  | [], vs, r, i, e, h => by simp at h
  | e0 :: es, vs, ⟨v, vs', h1, h2, h3⟩, 0, e, h => by simp at h; subst h; exact ⟨v, by rw [h1]; rfl, h2⟩
  | e0 :: es, vs, ⟨v, vs', h1, h2, h3⟩, i + 1, e, h => by
    obtain ⟨u, h4, h5⟩ := RepEs.nth h3 (by simpa using h)
    exact ⟨u, by rw [h1]; simpa using h4, h5⟩
theorem packEs_len : ∀ (hs : List ESh) (x : EShs.T hs), (packEs hs x).length = hs.length
  | [], x => rfl
  | a :: hs, x => by simp [packEs, packEs_len hs x.2]
theorem start_tmps {w : World} {Fz : Nat → Prop} {gs : List Gh} {es : List Ent} {vs : List Value} (hr : RepEs C S w Fz gs es vs) (n : Nat) : Tmps C S w Fz gs (es ++ List.replicate n (.one .undef)) (vs.toArray ++ Array.replicate n undef) := by
  have hl := hr.length
  refine ⟨by simp [hl], fun i e hi => ?_⟩
  by_cases h : i < es.length
  · rw [List.getElem?_append_left h] at hi
    obtain ⟨v, h1, h2⟩ := hr.nth hi
    exact ⟨v, by rw [Array.getElem?_append, if_pos (by simp; omega)]; simpa using h1, h2⟩
  · rw [List.getElem?_append_right (by omega), List.getElem?_replicate] at hi
    split at hi
    · rename_i hlt
      obtain rfl := Option.some.inj hi
      refine ⟨undef, ?_, trivial⟩
      rw [Array.getElem?_append, if_neg (by simp; omega)]
      simp only [List.size_toArray, hl]
      rw [Array.getElem?_replicate, if_pos hlt]
    · cases hi
/-- A function's contract: its plain function, one step for all calls within. -/
theorem fn_ok (ok : CfgOk P C S) (hO : ∀ f sp, sp ∈ O f → SpecOk P C S f sp) {n : Nat} {H : Hints} {f : FuncId} {fn : Func} {body : Code} {ins : Sh} {outs : List Sh} (hf : P.funcs[f]? = some fn) (hb : fn.body = some body) (hname : (fn.name == "runtime.NumGoroutine") = false)
    (hnt : ins.es.length ≤ fn.ntmps) (ob : Obl P C O n ins.ss.length fn.ntmps H body) {sem : ins.T → Option (OutsT outs)} (hs : ∀ x, sem x = runFn P C O n H fn body ins outs x) (houts : (outs.all fun h => h.es.length == 1) = true) : SpecOk P C S f ⟨ins, outs, sem⟩ := by
  refine ⟨⟨fn, hf, by rw [hb]; rfl, hname⟩, fun w Fz gs vs x y rel hr hy => ?_⟩
  simp only at hy
  rw [hs] at hy
  refine calls_of_wp hf hb ?_
  have hvl : vs.length = ins.es.length := by rw [hr.length, packEs_len]
  have hsz : (vs.toArray ++ Array.replicate (fn.ntmps - vs.toArray.size) undef).size = fn.ntmps := by simp [hvl]; omega
  have i0 : Inv C S ins.ss.length w Fz gs ⟨packEs ins.es x.1 ++ List.replicate (fn.ntmps - ins.es.length) (.one .undef), packSs ins.ss x.2⟩ ⟨vs.toArray ++ Array.replicate (fn.ntmps - vs.toArray.size) undef, []⟩ w Fz gs := by
    refine ⟨rel, ?_, rfl, Step.refl _ _ _ _, by rw [rel.len, packSs_len]; exact Nat.le_refl _⟩
    have := start_tmps hr (fn.ntmps - ins.es.length)
    simpa [hvl] using this
  refine wp_mono (interp_ok ok hO body ob i0 hsz hy) fun e a' w' ⟨ex, σ', Fz', gs', he, i', hnt', hk⟩ => ?_
  have fin : (resE P C fn σ' fun r => encS ins.ss.length outs [r] σ'.s) = some y → a'.defers = [] ∧ ∃ v, (results fn a'.tmps).run P w' = .ok v w' ∧
      ∃ v_1 Fz' gs' o, Ending.returned v = Ending.returned v_1 ∧ Rel C S w' Fz' gs' (outP outs y).2 ∧ (outP outs y).1 = [o] ∧ RepE C S w' Fz' gs' o v_1 ∧ Step ins.ss.length w Fz gs w' Fz' gs' := by
    intro hk
    obtain ⟨v, e, h1, h2, h3⟩ := retE_ok i'.rel i'.tmps hk
    obtain ⟨h, y', c, hm, hc, ho⟩ := encS_inv h3
    obtain ⟨F1, g1, r1, e1, s1, l1⟩ := conf_inv i' (es := [e]) (vs := [v]) ⟨v, [], rfl, h2, rfl⟩ hc
    have hpl := packEs_len h.es y'.1
    rw [show h.es.length = 1 by simpa using List.all_eq_true.1 houts h hm] at hpl
    rw [ho]
    match hp : packEs h.es y'.1, hpl with
    | [o], _ =>
      rw [hp] at e1
      obtain ⟨v', vs', k1, k2, k3⟩ := e1
      simp only [List.cons.injEq] at k1
      obtain ⟨rfl, _⟩ := k1
      exact ⟨i'.defers, v, h1, v, F1, g1, o, rfl, r1, rfl, k2, s1⟩
  cases ex with
  | normal => subst he; exact fin hk
  | exit id => cases hk
  | ret => subst he; exact fin hk
end
end Go.Proofs.YtnajjhjbkanigaaDoor.Cm
