/- Code as plain functions: regions of operations. By this session. -/
import Derived.Test.YtnajjhjbkanigaaDoorCmBv
namespace Go.Proofs.YtnajjhjbkanigaaDoor.Cm
open Go
set_option linter.unusedVariables false
set_option linter.unusedSimpArgs false
section
variable {P : Program} {C : Cfg} {S : Nat → Addr} {w : World} {Fz : Nat → Prop} {gs : List Gh} {R : Type} {O : FuncId → List FSpec} {re : List Nat}
variable {o : Oper} {a : Act} {next : Act → World → Prop} {Q : Exit → Act → World → Prop} {K : Ent → List Slot → Option R} {r : R}
theorem isNilC_eval {x : Operand} (h : isNilC x = true) : a.eval x = .nilIface := by rw [isNilC_ev h]; rfl
theorem args2 {xs : Array Operand} {x y : Operand} (h : xs.toList = [x, y]) : xs = #[x, y] := by apply Array.ext'; rw [h]
theorem args1 {α : Type} {xs : Array α} {x : α} (h : xs.toList = [x]) : xs = #[x] := by apply Array.ext'; rw [h]
theorem args2' {α : Type} {xs : Array α} {x y : α} (h : xs.toList = [x, y]) : xs = #[x, y] := by apply Array.ext'; rw [h]
theorem capsE_ok : ∀ {es : List Ent} {vs : List Value} {js : List Nat}, RepEs C S w Fz gs es vs → capsE es = some js → vs.length = js.length ∧ ∀ (i c : Nat), js[i]? = some c → ∃ (g : Gh) (b : Nat), gs[c]? = some g ∧ g.v = .pointer (some ⟨b, 0, none⟩) ∧ vs[i]? = some (.pointer (some ⟨b, 0, none⟩))
  | [], vs, js, hr, h => by
    obtain rfl := Option.some.inj h
    rw [show vs = [] from hr]
    exact ⟨rfl, fun i c hi => by simp at hi⟩
  | e :: es, vs, js, ⟨v, vs', e1, h2, h3⟩, h => by
    unfold capsE at h
    split at h
    · rename_i heq; cases heq
    · rename_i j r heq
      cases heq
      cases hc : capsE es with
      | none => rw [hc] at h; cases h
      | some js' =>
        rw [hc] at h
        obtain rfl := Option.some.inj h
        obtain ⟨c1, c2⟩ := capsE_ok h3 hc
        obtain ⟨g, b, k1, k2, k3⟩ := h2
        subst e1
        refine ⟨by simp [c1], fun i c hi => ?_⟩
        cases i with
        | zero => simp at hi; subst hi; exact ⟨g, b, k1, k2, by simp [k3]⟩
        | succ i => simpa using c2 i c (by simpa using hi)
    · cases h
theorem fieldT_und {t : TypeId} {f : Nat} {fd : Field} (h : fieldT P t f = some fd) : ∃ fs, P.underlying t = some (.struct fs) ∧ fs[f]? = some fd := by
  unfold fieldT at h
  split at h
  · rename_i fs hu; exact ⟨fs, hu, h⟩
  · cases h
theorem part_run {t : TypeId} {e : Ent} {cs : List Lf} {vs : List Value} {off : Nat} (hr : RepLs C S w Fz gs cs vs) (h : readCells P cs off t = some e) :
    ∃ v, (part t vs.toArray off).run P w = .ok v w ∧ RepE C S w Fz gs e v := by
  unfold readCells at h
  split at h
  · rename_i hb
    split at h
    · rename_i n hn
      split at h
      · rename_i hle
        obtain rfl := Option.some.inj h
        refine ⟨.agg ((vs.drop off).take n).toArray, ?_, _, rfl, (hr.drop off).take n⟩
        simp [part, aggB_run (w := w) hb, sizeT_run (w := w) hn]
      · cases h
    · cases h
  · rename_i hb
    cases hg : cs[off]? with
    | none => rw [hg] at h; cases h
    | some l =>
      rw [hg] at h
      obtain rfl := Option.some.inj h
      obtain ⟨v, h1, h2⟩ := hr.get hg
      exact ⟨v, by simp [part, aggB_run (w := w) hb, h1], h2⟩
  · cases h
theorem RepPs.nth : ∀ {ps : List (Bool × List Lf)} {vs : List Value}, RepPs C S w Fz gs ps vs → ∀ {i : Nat} {p : Bool × List Lf}, ps[i]? = some p → ∃ v, vs[i]? = some v ∧ RepE C S w Fz gs (Ent.part p) v
  | [], vs, r, i, p, h => by simp at h
  | q :: ps, vs, ⟨v, vs', h1, h2, h3⟩, 0, p, h => by
    simp at h
    subst h
    refine ⟨v, by rw [h1]; rfl, ?_⟩
    cases hp : Ent.part q with
    | one l => rw [hp] at h2; exact h2
    | agg cs => rw [hp] at h2; exact h2
    | tup ps => unfold Ent.part at hp; split at hp <;> cases hp
  | q :: ps, vs, ⟨v, vs', h1, h2, h3⟩, i + 1, p, h => by
    obtain ⟨u, h4, h5⟩ := RepPs.nth h3 (by simpa using h)
    exact ⟨u, by rw [h1]; simpa using h4, h5⟩
theorem assert_ok (ok : CfgOk P C S) {tbl : List Slot} (rel : Rel C S w Fz gs tbl) {e : ErrV} {v : Value} {t : TypeId} {ok2 : Bool} (hx : RepErr C S w Fz e v)
    (h : (if ok2 = true then K (.tup [(false, [.val .atp (errAt e)]), (false, [.val .bool (errIsAt e)])]) tbl else match errAt e with | some x => K (.one (.fad (.pair (.int .i64) .err) x 0)) tbl | none => none) = some r) :
    Did P C S w Fz gs ((Instr.typeAssert v t C.ta ok2).run P w) K r := by
  obtain ⟨ii, hi, hz⟩ := ok.tz
  have hzr : (zeroValue C.ta).run P w = .ok (.pointer none) w := by simp [zeroValue, typeInfo, hi, hz]
  have bad : ∀ (v : Value), (v = .nilIface ∨ ∃ d x, v = .iface d x ∧ d ≠ C.ta) → (Instr.typeAssert v t C.ta true).run P w = .ok (.tuple #[.pointer none, .bool false]) w := by
    intro v hv
    rcases hv with rfl | ⟨d, x, rfl, hd⟩
    · simp [Instr.typeAssert, run_underlying ok.ta, hzr]
    · simp [Instr.typeAssert, run_underlying ok.ta, hzr, hd]
  cases e with
  | nil =>
    rw [show v = .nilIface from hx]
    cases ok2 with
    | true => exact Did.same rel ⟨_, .tup [(false, [.val .atp (errAt .nil)]), (false, [.val .bool (errIsAt .nil)])], bad _ (.inl rfl), ⟨[.pointer none, .bool false], rfl, .pointer none, _, rfl, .inl ⟨rfl, rfl⟩, .bool false, [], rfl, rfl, rfl⟩, h⟩
    | false => simp [errAt] at h
  | sent c =>
    obtain ⟨_, rfl⟩ := hx
    cases ok2 with
    | true => exact Did.same rel ⟨_, .tup [(false, [.val .atp (errAt (.sent c))]), (false, [.val .bool (errIsAt (.sent c))])], bad _ (.inr ⟨_, _, rfl, ok.ne⟩), ⟨[.pointer none, .bool false], rfl, .pointer none, _, rfl, .inl ⟨rfl, rfl⟩, .bool false, [], rfl, rfl, rfl⟩, h⟩
    | false => simp [errAt] at h
  | at_ p e =>
    obtain ⟨b, u, rfl, h1, h2, h3⟩ := hx
    cases ok2 with
    | true =>
      refine Did.same rel ⟨.tuple #[.pointer (some ⟨b, 0, none⟩), .bool true], .tup [(false, [.val .atp (errAt (.at_ p e))]), (false, [.val .bool (errIsAt (.at_ p e))])], by simp [Instr.typeAssert, run_underlying ok.ta], ⟨[.pointer (some ⟨b, 0, none⟩), .bool true], rfl, .pointer (some ⟨b, 0, none⟩), _, rfl, .inr ⟨p, e, b, u, rfl, rfl, h1, h2, h3⟩, .bool true, [], rfl, rfl, rfl⟩, h⟩
    | false =>
      simp only [errAt, Bool.false_eq_true, if_false] at h
      refine Did.same rel ⟨.pointer (some ⟨b, 0, none⟩), .one (.fad (.pair (.int .i64) .err) (p, e) 0), by simp [Instr.typeAssert, run_underlying ok.ta], ⟨⟨b, 0, none⟩, [.int .i64 p, u], rfl, rfl, h1, ⟨[.int .i64 p], [u], rfl, rfl, u, rfl, h3⟩, fun j v hj => ?_⟩, h⟩
      rw [Addr.add_lit, World.cell?, h2]
      simpa using hj
theorem callop_ok (ok : CfgOk P C S) (hO : ∀ f sp, sp ∈ O f → SpecOk P C S f sp) {σ : St} (rel : Rel C S w Fz gs σ.s) (ht : Tmps C S w Fz gs σ.t a.tmps) {c : Call} (hop : o.op = .call c) (h : callOpE P C O c σ K = some r) (hn : Next C S w Fz gs K r (fun v w' => next (a.put o.dst v) w')) : o.wp P a w next Q := by
  have hargs : RepEs C S w Fz gs (c.args.toList.map σ.ev) (c.args.toList.map a.eval) := ev_reps ht _
  have hbi : ∀ (bi : Builtin) (s : Sem Value), c.callee = .builtin bi → (∀ cs, builtin bi c.argTypes o.type cs (c.args.map a.eval) = (do pure (.value (← s)))) → Did P C S w Fz gs (s.run P w) K r → o.wp P a w next Q := by
    intro bi s hc he hd
    refine wp_value (s := s) ?_ hd hn
    unfold execOp
    rw [hop]
    simp [resolve, hc, invoke, he]
  unfold callOpE at h
  split at h
  · rename_i f hf
    have hfv := ev_rep ht f
    unfold callE at h
    split at h
    · rename_i g caps e1
      rw [e1] at hfv
      obtain ⟨vs, h1, h2, h3⟩ := hfv
      obtain ⟨⟨fn, k1, k2, k3⟩, hcalls⟩ := call_ok hO rel (hargs.append (caps_rep h2 h3)) (fun _ h => h) h
      have hnone : fn.body.isNone = false := by cases hb : fn.body <;> simp_all
      have hrun : (execOp a.eval o).run P w = .ok (.enter g ((c.args.toList.map a.eval) ++ vs).toArray) w := by
        unfold execOp
        rw [hop]
        have hname : fn.name ≠ "runtime.NumGoroutine" := by simpa using k3
        have hbn : ¬ (fn.body = none) := by intro e; rw [e] at hnone; cases hnone
        have hc2 : ((c.args.toList.map a.eval) ++ vs).toArray = c.args.map a.eval ++ vs.toArray := by apply Array.ext'; simp
        rw [hc2]
        simp [resolve, hf, h1, Deferred.ofValue, invoke, callFunc, k1, hname, hbn]
      unfold Oper.wp
      rw [hrun, Oper.upon_enter]
      refine hcalls.mono fun ev w' ⟨v, Fz', gs', e, s', q1, q2, q3, q4, q5⟩ => ?_
      subst q1
      exact hn v w' Fz' gs' e s' q2 q3 q4 q5
    · cases h
  · rename_i hc
    split at h
    · rename_i x t e1 e2
      exact hbi .len (Builtin.len_ #[t] o.type #[a.eval x]) hc (fun cs => by rw [args1 e1, args1 e2, show (#[x] : Array Operand).map a.eval = #[a.eval x] by simp]; rfl) (Did.same rel (len_ok rel (ev_rep ht x) h))
    · cases h
  · rename_i hc
    split at h
    · rename_i x y t u e1 e2
      exact hbi .append (Builtin.append_ #[t, u] o.type #[a.eval x, a.eval y]) hc (fun cs => by rw [args2 e1, args2' e2, show (#[x, y] : Array Operand).map a.eval = #[a.eval x, a.eval y] by simp]; rfl) (append_ok rel (ev_rep ht x) (ev_rep ht y) h)
    · cases h
  · rename_i hc
    split at h
    · rename_i x y t u e1 e2
      obtain ⟨w', F1, g1, s1, h1, h2, h3, h4⟩ := delete_ok (u := u) (ty := o.type) rel (ev_rep ht x) (ev_rep ht y) h
      exact hbi .delete (Builtin.delete_ #[t, u] o.type #[a.eval x, a.eval y]) hc (fun cs => by rw [args2 e1, args2' e2, show (#[x, y] : Array Operand).map a.eval = #[a.eval x, a.eval y] by simp]; rfl) ⟨_, w', F1, g1, .tup [], s1, h1, h2, ⟨[], rfl, rfl⟩, h3, h4⟩
    · cases h
  · rename_i hc
    split at h
    · rename_i x t e1 e2
      split at h
      · rename_i d ht2
        split at h
        · rename_i j e3
          split at h
          · rename_i kt vt ag l hj
            have hx := ev_rep ht x
            rw [e3] at hx
            obtain ⟨w', F1, g1, h1, h2, h3⟩ := clear_ok (ty := o.type) rel ht2 hx hj
            exact hbi .clear (Builtin.clear_ #[t] o.type #[a.eval x]) hc (fun cs => by rw [args1 e1, args1 e2, show (#[x] : Array Operand).map a.eval = #[a.eval x] by simp]; rfl) ⟨_, w', F1, g1, .tup [], _, h1, h2, ⟨[], rfl, rfl⟩, h3, h⟩
          · cases h
        · cases h
      · cases h
    · cases h
  · rename_i hc
    obtain ⟨v, e, h1, h2, h3⟩ := minmax_ok hargs h c.argTypes o.type
    refine hbi .max (Builtin.max_ c.argTypes o.type (c.args.toList.map a.eval).toArray) hc (fun cs => ?_) (Did.same rel ⟨v, e, h1, h2, h3⟩)
    rw [show (c.args.toList.map a.eval).toArray = c.args.map a.eval by apply Array.ext'; simp]
    rfl
  · rename_i hc
    obtain ⟨v, e, h1, h2, h3⟩ := minmax_ok hargs h c.argTypes o.type
    refine hbi .min (Builtin.min_ c.argTypes o.type (c.args.toList.map a.eval).toArray) hc (fun cs => ?_) (Did.same rel ⟨v, e, h1, h2, h3⟩)
    rw [show (c.args.toList.map a.eval).toArray = c.args.map a.eval by apply Array.ext'; simp]
    rfl
  · cases h
theorem opE_ok (ok : CfgOk P C S) (hO : ∀ f sp, sp ∈ O f → SpecOk P C S f sp) {σ : St} (rel : Rel C S w Fz gs σ.s) (ht : Tmps C S w Fz gs σ.t a.tmps) (h : opE P C O re o σ K = some r) (hn : Next C S w Fz gs K r (fun v w' => next (a.put o.dst v) w')) : o.wp P a w next Q := by
  unfold opE at h
  cases hop : o.op with
  | move x =>
    rw [hop] at h
    exact wp_pure (by unfold execOp; rw [hop]) rel (ev_rep ht x) h hn
  | assign x =>
    rw [hop] at h
    exact wp_pure (by unfold execOp; rw [hop]) rel (ev_rep ht x) h hn
  | pick c x y =>
    rw [hop] at h
    simp only at h
    have hc := ev_rep ht c
    split at h
    · rename_i bb e1
      rw [e1] at hc
      cases bb with
      | true =>
        have hv : a.eval c = .bool true := by simpa [RepE, RepV, RepL, RepT] using hc
        exact wp_value (s := pure (a.eval x)) (by unfold execOp; rw [hop]; simp [hv, asBool]) (Did.same rel ⟨_, _, rfl, ev_rep ht x, h⟩) hn
      | false =>
        have hv : a.eval c = .bool false := by simpa [RepE, RepV, RepL, RepT] using hc
        exact wp_value (s := pure (a.eval y)) (by unfold execOp; rw [hop]; simp [hv, asBool]) (Did.same rel ⟨_, _, rfl, ev_rep ht y, h⟩) hn
    · cases h
  | alloc e =>
    rw [hop] at h
    simp only at h
    split at h
    · rename_i z hz
      exact wp_value (by unfold execOp; rw [hop]) (alloc_ok rel hz h) hn
    · cases h
  | box e v =>
    rw [hop] at h
    simp only at h
    split at h
    · rename_i hk
      exact wp_value (by unfold execOp; rw [hop]) (box_ok rel (ev_rep ht v) hk h) hn
    · cases h
  | build t parts =>
    rw [hop] at h
    exact wp_value (by unfold execOp; rw [hop]) (Did.same rel (build_ok rel (by rw [Array.toList_map]; exact ev_parts ht _) h)) hn
  | buildSlice t len parts =>
    rw [hop] at h
    simp only at h
    split at h
    · exact wp_value (by unfold execOp; rw [hop]) (buildFl_ok rel (by rw [Array.toList_map]; exact ev_parts ht _) h) hn
    · exact wp_value (by unfold execOp; rw [hop]) (buildSlice_ok rel (by rw [Array.toList_map]; exact ev_parts ht _) h) hn
  | load t x =>
    rw [hop] at h
    obtain ⟨v, e, k1, k2, k3⟩ := load_ok rel (ev_rep ht x) h
    exact wp_value (by unfold execOp; rw [hop]) (Did.same rel ⟨v, _, k1, unfl_rep k2, k3⟩) hn
  | store t x v =>
    rw [hop] at h
    obtain ⟨w', Fz', gs', s', h1, h2, h3, h4⟩ := store_ok rel (ev_rep ht x) (ev_rep ht v) h
    exact wp_skip' (by unfold execOp; rw [hop]) h1 h2 h3 h4 hn
  | nilCheck x =>
    rw [hop] at h
    simp only at h
    have hx := ev_rep ht x
    split at h
    · rename_i j q e1
      rw [e1] at hx
      have hx' := hx
      obtain ⟨g, b, h1, h2, h3⟩ := hx
      exact wp_pure (v := .pointer (some ⟨b, q, none⟩)) (by unfold execOp; rw [hop]; simp only [h3]) rel (h3 ▸ hx') h hn
    · rename_i j z i q e1
      rw [e1] at hx
      have hx' := hx
      obtain ⟨g, ad, len, cap, h1, h2, h3, h4, h5, h6⟩ := hx
      exact wp_pure (v := .pointer (some (ad.add (i.toNat * z + q)))) (by unfold execOp; rw [hop]; simp only [h6]) rel (h6 ▸ hx') h hn
    · rename_i k y q e1
      rw [e1] at hx
      have hx' := hx
      obtain ⟨ad, cs, h6, h1⟩ := hx
      exact wp_pure (v := .pointer (some (ad.add q))) (by unfold execOp; rw [hop]; simp only [h6]) rel (h6 ▸ hx') h hn
    · rename_i y e1
      rw [e1] at hx
      split at h
      · rename_i z
        rcases hx with ⟨e2, _⟩ | ⟨p, e, b, u, e2, e3, e4, e5, e6⟩
        · cases e2
        · cases e2
          have e7 : a.eval x = .pointer (some ⟨b, 0, none⟩) := by simpa using e3
          refine wp_pure (v := .pointer (some ⟨b, 0, none⟩)) (e := .one (.fad (.pair (.int .i64) .err) (p, e) 0)) (by unfold execOp; rw [hop]; simp only [e7]) rel ?_ h hn
          refine ⟨⟨b, 0, none⟩, [.int .i64 p, u], rfl, rfl, e4, ⟨[.int .i64 p], [u], rfl, rfl, u, rfl, e6⟩, fun j v hj => ?_⟩
          rw [Addr.add_lit, World.cell?, e5]
          simpa using hj
      · cases h
    · cases h
  | binOp op t x y yt =>
    rw [hop] at h
    exact wp_value (s := do eqGuard op t x y (a.eval x) (a.eval y); binOp op t (a.eval x) (a.eval y)) (by unfold execOp; rw [hop]) (Did.same rel (binE_ok ok rel (ev_rep ht x) (ev_rep ht y) isNilC_eval isNilC_eval h)) hn
  | unOp op t x =>
    rw [hop] at h
    exact wp_value (by unfold execOp; rw [hop]) (Did.same rel (un_ok rel (ev_rep ht x) h)) hn
  | convert src dst x =>
    rw [hop] at h
    exact wp_value (by unfold execOp; rw [hop]) (conv_ok rel (ev_rep ht x) h) hn
  | makeInterface t x =>
    rw [hop] at h
    simp only at h
    have hx := ev_rep ht x
    split at h
    · rename_i j e1
      rw [e1] at hx
      obtain ⟨g, b, h1, h2, h3⟩ := hx
      split at h
      · rename_i u p e hj
        split at h
        · rename_i hc
          obtain ⟨rfl, rfl⟩ := hc
          obtain ⟨b', vs, q1, q2, q3, v1, vs1, rfl, q4, v2, vs2, rfl, q5, q6⟩ := rel.slot j _ g hj h1
          rw [show vs2 = [] from q6] at q3
          obtain rfl : v1 = .int .i64 p := by simpa [RepL, RepT] using q4
          rw [h2] at q1
          obtain rfl : b = b' := by simpa using q1
          have q5' : RepT C S w Fz .err e [v2] := q5
          obtain ⟨v3, e3, q7⟩ := q5'
          obtain rfl : v2 = v3 := by simpa using e3
          have fx : Fix w Fz w (fun z => Fz z ∨ g.own = some z) := ⟨fun _ h => .inl h, fun _ _ => rfl⟩
          obtain ⟨r1, s1⟩ := rel.upd (w' := w) (Fz' := fun z => Fz z ∨ g.own = some z) gs.length h1 .dead ⟨g.v, none⟩ rfl (.inl rfl) rfl rfl rfl rfl (fun _ _ => rfl) (fun _ h => .inl h) (fun z h => h.elim .inl (fun h => .inr ⟨h, rfl⟩)) rfl
          refine wp_value (s := Instr.makeInterface C.ta (a.eval x)) (by unfold execOp; rw [hop]) ⟨.iface C.ta (.pointer (some ⟨b, 0, none⟩)), w, _, _, .one (.val .err (.at_ p e)), _, ?_, r1, ?_, s1, h⟩ hn
          · rw [h3]
            simp [Instr.makeInterface, run_underlying ok.ta]
          · exact ⟨_, rfl, b, v2, rfl, .inr q2, q3, q7.fix fx⟩
        · cases h
      · cases h
    · cases h
  | makeFunc f first caps =>
    rw [hop] at h
    cases f with
    | func f =>
      simp only at h
      split at h
      · rename_i js e1 e2
        have hf : first = #[] := by apply Array.ext'; rw [e1]
        obtain ⟨c1, c2⟩ := capsE_ok (ev_reps ht caps.toList) e2
        refine wp_value (s := Instr.makeFunc (.func f) (first.map a.eval) (caps.map a.eval)) (by unfold execOp; rw [hop]) (Did.same rel ⟨.func (.func f) #[] (caps.toList.map a.eval).toArray, .one (.fn f js), ?_, ⟨_, rfl, c1, c2⟩, h⟩) hn
        have hc2 : (caps.toList.map a.eval).toArray = caps.map a.eval := by apply Array.ext'; simp
        rw [hf, hc2, show (#[] : Array Operand).map a.eval = #[] by simp]
        rfl
      · cases h
    | _ => cases h
  | makeMap t n =>
    rw [hop] at h
    cases n with
    | none => exact wp_value (by unfold execOp; rw [hop]; rfl) (makeMap_ok rel h) hn
    | some x => cases h
  | makeSlice t l c =>
    rw [hop] at h
    exact wp_value (by unfold execOp; rw [hop]) (makeSlice_ok rel (ev_rep ht l) (ev_rep ht c) h) hn
  | slice t x lo hi m =>
    rw [hop] at h
    cases m with
    | none => exact wp_value (by unfold execOp; rw [hop]; rfl) (slice_ok rel (ev_rep ht x) (ev_opt ht lo) (ev_opt ht hi) h) hn
    | some x => cases h
  | fieldAddr t x f =>
    rw [hop] at h
    simp only at h
    have hx := ev_rep ht x
    split at h
    · rename_i fd hf
      split at h
      · rename_i n hsz
        obtain ⟨fs, hu, hfs⟩ := fieldT_und hf
        have hrun : ∀ ad : Addr, a.eval x = .pointer (some ad) → (Instr.fieldAt t (a.eval x) f).run P w = .ok (.pointer (some (ad.add fd.offset))) w := by
          intro ad he
          simp [Instr.fieldAt, run_underlying hu, hfs, he, Instr.sureAddr, fieldPlace, sizeT_run (w := w) hsz]
        split at h
        · rename_i j q e1
          rw [e1] at hx
          obtain ⟨g, b, h1, h2, h3⟩ := hx
          refine wp_value (s := Instr.fieldAt t (a.eval x) f) (by unfold execOp; rw [hop]) (Did.same rel ⟨_, _, hrun _ h3, ?_, h⟩) hn
          rw [Addr.add_lit]
          exact ptr_rep h1 h2
        · rename_i j z i q e1
          rw [e1] at hx
          obtain ⟨g, ad, len, cap, h1, h2, h3, h4, h5, h6⟩ := hx
          refine wp_value (s := Instr.fieldAt t (a.eval x) f) (by unfold execOp; rw [hop]) (Did.same rel ⟨_, _, hrun _ h6, ?_, h⟩) hn
          rw [add_add', Nat.add_assoc]
          exact ⟨g, ad, len, cap, h1, h2, h3, h4, h5, rfl⟩
        · rename_i k y q e1
          rw [e1] at hx
          obtain ⟨ad, cs, h6, h1⟩ := hx
          refine wp_value (s := Instr.fieldAt t (a.eval x) f) (by unfold execOp; rw [hop]) (Did.same rel ⟨_, _, hrun _ h6, ?_, h⟩) hn
          rw [add_add']
          exact ⟨ad, cs, rfl, h1⟩
        · cases h
      · cases h
    · cases h
  | field t x f =>
    rw [hop] at h
    simp only at h
    have hx := ev_rep ht x
    split at h
    · rename_i fd cs hf e1
      rw [e1] at hx
      obtain ⟨vs, h1, h2⟩ := hx
      obtain ⟨fs, hu, hfs⟩ := fieldT_und hf
      split at h
      · rename_i e he
        obtain ⟨v, h3, h4⟩ := part_run (P := P) h2 he
        refine wp_value (s := Instr.field t (a.eval x) f) (by unfold execOp; rw [hop]) (Did.same rel ⟨v, _, ?_, unfl_rep h4, h⟩) hn
        simp [Instr.field, run_underlying hu, hfs, h1, asAgg, h3]
      · cases h
    · cases h
  | indexAddr t x i =>
    rw [hop] at h
    exact wp_value (by unfold execOp; rw [hop]) (Did.same rel (indexAddr_ok rel (ev_rep ht x) (ev_rep ht i) h)) hn
  | index t x i =>
    rw [hop] at h
    simp only at h
    have hx := ev_rep ht x
    have hi := ev_rep ht i
    split at h
    · rename_i y k q e1 e2 e3
      rw [e2] at hx
      rw [e3] at hi
      have hx : a.eval x = .string y := by simpa [RepE, RepV, RepL, RepT] using hx
      have hi : a.eval i = .int k q := by simpa [RepE, RepV, RepL, RepT] using hi
      exact wp_value (s := Instr.index t (.string y) (.int k q)) (by unfold execOp; rw [hop]; simp only [hx, hi]) (Did.same rel (index_ok (K := fun e => K e σ.s) e1 h)) hn
    · cases h
  | lookup t m k ok2 =>
    rw [hop] at h
    exact wp_value (by unfold execOp; rw [hop]) (lookup_ok rel (ev_rep ht m) (ev_rep ht k) h) hn
  | mapUpdate t m k v =>
    rw [hop] at h
    obtain ⟨w', Fz', gs', s', h1, h2, h3, h4⟩ := mapUpdate_ok rel (ev_rep ht m) (ev_rep ht k) (ev_rep ht v) h
    exact wp_skip' (by unfold execOp; rw [hop]) h1 h2 h3 h4 hn
  | insert t m k v =>
    rw [hop] at h
    obtain ⟨w', Fz', gs', s', h1, h2, h3, h4⟩ := mapUpdate_ok rel (ev_rep ht m) (ev_rep ht k) (ev_rep ht v) h
    exact wp_skip' (by unfold execOp; rw [hop]) h1 h2 h3 h4 hn
  | typeAssert x t u ok2 =>
    rw [hop] at h
    simp only at h
    have hx := ev_rep ht x
    split at h
    · rename_i e e1
      rw [e1] at hx
      split at h
      · rename_i hu
        subst hu
        obtain ⟨v, e2, hx⟩ := hx
        obtain rfl : a.eval x = v := by simpa using e2
        exact wp_value (s := Instr.typeAssert (a.eval x) t C.ta ok2) (by unfold execOp; rw [hop]) (assert_ok ok rel hx h) hn
      · cases h
    · cases h
  | extract t i =>
    rw [hop] at h
    simp only at h
    have hx := ev_rep ht t
    split at h
    · rename_i ps e1
      rw [e1] at hx
      obtain ⟨vs, h1, h2⟩ := hx
      split at h
      · rename_i p hp
        obtain ⟨v, h3, h4⟩ := h2.nth hp
        refine wp_value (s := Instr.extract (a.eval t) i) (by unfold execOp; rw [hop]) (Did.same rel ⟨v, Ent.part p, ?_, h4, h⟩) hn
        simp [Instr.extract, h1, h3]
      · cases h
    · cases h
  | call c =>
    rw [hop] at h
    exact callop_ok ok hO rel ht hop h hn
  | _ => rw [hop] at h; cases h
end
end Go.Proofs.YtnajjhjbkanigaaDoor.Cm
