/- Code as plain functions: operations in any order. By this session. -/
import Derived.Test.YtnajjhjbkanigaaDoorCmU
import Derived.Test.YtnajjhjbkanigaaDoorCmY
namespace Go.Proofs.YtnajjhjbkanigaaDoor.Cm
open Go
set_option linter.unusedVariables false
section
variable {P : Program} {C : Cfg} {O : FuncId → List FSpec} {re : List Nat} {ops : Array Oper}
theorem rdOf_congr {o : Op} {σ σ' : St} (h : ∀ x ∈ o.operands.toList, σ.ev x = σ'.ev x) : rdOf σ o = rdOf σ' o := by
  cases o <;> first | rfl | skip
  case load t a => simp only [rdOf]; rw [h a (by simp [Op.operands])]
  case indexAddr t a i => simp only [rdOf]; rw [h a (by simp [Op.operands])]
  case convert s t a => simp only [rdOf]; rw [h a (by simp [Op.operands])]
  case slice t a l hh m => simp only [rdOf]; rw [h a (by simp [Op.operands])]
  case lookup t m k ok => simp only [rdOf]; rw [h m (by simp [Op.operands])]
  case call c =>
    obtain ⟨ha, hf⟩ := callop_mem (c := c) rfl
    have hm : (c.args.toList.map fun x => footL (σ.ev x)) = c.args.toList.map fun x => footL (σ'.ev x) := List.map_congr_left fun x hx => by rw [h x (ha x hx)]
    simp only [rdOf, hm]
theorem callM_congr {o : Op} {σ σ' : St} (hs : σ.s = σ'.s) (h : ∀ x ∈ o.operands.toList, σ.ev x = σ'.ev x) : callM O o σ = callM O o σ' := by
  cases o <;> first | rfl | skip
  case store t a v => simp only [callM]; rw [h a (by simp [Op.operands])]
  case mapUpdate t m k v => simp only [callM]; rw [h m (by simp [Op.operands])]
  case call c =>
    obtain ⟨ha, hf⟩ := callop_mem (c := c) rfl
    have hm : c.args.toList.map σ.ev = c.args.toList.map σ'.ev := map_ev fun x hx => h x (ha x hx)
    simp only [callM, hm, hs]
    split
    · rename_i f hc
      rw [h f (hf f hc)]
    · rfl
theorem confE_val {sh : List SSh} {a : ESh} {e : Ent} (he : valE e = true) {c d : CS} {x : a.T} (h : confE sh a e c = some (x, d)) : d = c ∧ ∀ c', confE sh a e c' = some (x, c') := by
  cases e with
  | agg l => cases he
  | tup l => cases he
  | one l =>
    cases l <;> first | (cases he; done) | skip
    rename_i k v
    cases a with
    | agg hs => simp [confE] at h
    | tup hs => simp [confE] at h
    | one b =>
      cases b <;> first | (simp [confE, confL] at h; done) | skip
      case val k' =>
        have key : ∀ (k' : Ty) (x : k'.T) (s1 : List Slot), asT k' (.val k v) c.tbl = some (x, s1) → s1 = c.tbl ∧ ∀ s2, asT k' (.val k v) s2 = some (x, s2) := by
          have key0 : ∀ (k' : Ty) (x : k'.T) (s1 : List Slot), asT0 k' (.val k v) c.tbl = some (x, s1) → s1 = c.tbl ∧ ∀ s2, asT0 k' (.val k v) s2 = some (x, s2) := by
            intro k' x s1 h
            simp only [asT0] at h ⊢
            by_cases hk : k = k'
            · subst hk
              simp only [dite_true, Option.some.injEq, Prod.mk.injEq] at h ⊢
              exact ⟨h.2.symm, fun c' => ⟨h.1, trivial⟩⟩
            · simp [hk] at h
          intro k' x s1 h
          cases k' with
          | exs e =>
            simp only [asT] at h ⊢
            split at h
            · rename_i y s3 h3
              obtain ⟨rfl, h4⟩ := key0 _ _ _ h3
              obtain ⟨rfl, rfl⟩ := Prod.mk.inj (Option.some.inj h)
              exact ⟨rfl, fun s2 => by rw [h4 s2]⟩
            · cases h
          | _ => exact key0 _ x s1 h
        simp only [confE, confL, confV, isArr] at h ⊢
        split at h
        · rename_i y s1 h1
          obtain ⟨rfl, h2⟩ := key k' y s1 h1
          simp only [Option.some.injEq, Prod.mk.injEq] at h
          refine ⟨h.2.symm, fun c' => ?_⟩
          rw [h2 c'.tbl]
          simp only [Option.some.injEq, Prod.mk.injEq]
          exact ⟨h.1, trivial⟩
        · cases h
      case undef =>
        simp only [confE, Option.some.injEq, Prod.mk.injEq] at h ⊢
        exact ⟨h.2.symm, fun c' => trivial⟩
theorem confEs_val {sh : List SSh} : ∀ {hs : List ESh} {es : List Ent} {c d : CS} {x : EShs.T hs}, (es.all fun e => valE e) = true → confEs sh hs es c = some (x, d) → d = c ∧ ∀ c', confEs sh hs es c' = some (x, c')
  | [], [], c, d, x, _, h => by
    simp only [confEs, Option.some.injEq, Prod.mk.injEq] at h ⊢
    exact ⟨h.2.symm, fun c' => trivial⟩
  | [], _ :: _, c, d, x, _, h => by simp [confEs] at h
  | _ :: _, [], c, d, x, _, h => by simp [confEs] at h
  | a :: hs, e :: es, c, d, x, he, h => by
    simp only [List.all_cons, Bool.and_eq_true] at he
    simp only [confEs] at h ⊢
    split at h
    · rename_i x1 c1 h1
      split at h
      · rename_i x2 c2 h2
        obtain ⟨rfl, k1⟩ := confE_val he.1 h1
        obtain ⟨rfl, k2⟩ := confEs_val he.2 h2
        simp only [Option.some.injEq, Prod.mk.injEq] at h
        refine ⟨h.2.symm, fun c' => ?_⟩
        rw [k1 c']
        simp only
        rw [k2 c']
        simp only [Option.some.injEq, Prod.mk.injEq]
        exact ⟨h.1, trivial⟩
      · cases h
    · cases h
theorem conf_val {hs : List ESh} {es : List Ent} {s : List Slot} {x : (⟨hs, []⟩ : Sh).T} {c : CS} (he : (es.all fun e => valE e) = true) (h : conf ⟨hs, []⟩ es [] s = some (x, c)) : c = ⟨[], s⟩ ∧ ∀ s2, conf ⟨hs, []⟩ es [] s2 = some (x, ⟨[], s2⟩) := by
  simp only [conf] at h ⊢
  split at h
  · rename_i x1 c1 h1
    obtain ⟨rfl, k1⟩ := confEs_val he h1
    simp only [confSs, List.length_nil, if_true, Option.some.injEq, Prod.mk.injEq] at h
    refine ⟨h.2.symm, fun s2 => ?_⟩
    rw [k1 ⟨[], s2⟩]
    simp only [confSs, List.length_nil, if_true, Option.some.injEq, Prod.mk.injEq]
    exact ⟨h.1, trivial⟩
  · cases h
theorem tryS_val {l : List FSpec} (hl : noPlace l = true) {es : List Ent} {s s1 : List Slot} {e : Ent} (he : (es.all fun e => valE e) = true) (h : tryS es s two l = some (e, s1)) : s1 = s ∧ ∀ s2, tryS es s2 two l = some (e, s2) := by
  unfold noPlace at hl
  split at hl
  · rename_i hs outs sem
    unfold valOut at hl
    split at hl
    · rename_i k
      simp only [tryS] at h ⊢
      split at h
      · rename_i x c hc
        obtain ⟨rfl, k1⟩ := conf_val he hc
        split at h
        · rename_i y hy
          simp only [decS, packEs, packSs, List.map_nil, putBack, List.append_nil] at h
          obtain ⟨h1, h2⟩ := two_inj h
          refine ⟨h2, fun s2 => ?_⟩
          rw [k1 s2]
          simp only [hy, decS, packEs, packSs, List.map_nil, putBack, List.append_nil]
          rw [← h1]
          rfl
        · cases h
      · cases h
    · cases hl
  · cases hl
theorem reads_call {o : Oper} {σ : St} (hn : noSlots O o.op σ = true) {e : Ent} {s1 : List Slot} (h : opR P C O re o σ = some (e, s1)) : s1 = σ.s ∧ ∀ s2, opR P C O re o ⟨σ.t, s2⟩ = some (e, s2) := by
  have ev : ∀ (s2 : List Slot) (x : Operand), St.ev ⟨σ.t, s2⟩ x = σ.ev x := fun s2 x => by cases x <;> rfl
  unfold noSlots at hn
  split at hn
  · rename_i c hop
    split at hn
    · rename_i f hc
      split at hn
      · rename_i g hf
        simp only [Bool.and_eq_true] at hn
        have he : ((c.args.toList.map σ.ev).all fun e => valE e) = true := by rw [List.all_map]; exact hn.2
        have key : ∀ σ2 : St, (∀ x, σ2.ev x = σ.ev x) → opR P C O re o σ2 = tryS (c.args.toList.map σ.ev) σ2.s two (O g) := by
          intro σ2 h2
          have hm : c.args.toList.map σ2.ev = c.args.toList.map σ.ev := List.map_congr_left fun x _ => h2 x
          unfold opR opD
          rw [hop]
          simp only [opE, hop, callOpE, hc]
          rw [h2 f, hf, hm]
          simp only [callE, List.map_nil, List.append_nil]
        rw [key σ (fun _ => rfl)] at h
        obtain ⟨h1, h2⟩ := tryS_val hn.1 he h
        exact ⟨h1, fun s2 => by rw [key _ (ev s2)]; exact h2 s2⟩
      · cases hn
    · cases hn
  · cases hn
theorem noSlots_congr {o : Op} {σ σ' : St} (h : ∀ x ∈ o.operands.toList, σ.ev x = σ'.ev x) : noSlots O o σ = noSlots O o σ' := by
  cases o <;> first | rfl | skip
  case call c =>
    obtain ⟨ha, hf⟩ := callop_mem (c := c) rfl
    have hm : (c.args.toList.all fun x => valE (σ.ev x)) = c.args.toList.all fun x => valE (σ'.ev x) := by
      have := map_ev (σ := σ) (σ' := σ') fun x hx => h x (ha x hx)
      have h1 : ∀ τ : St, (c.args.toList.all fun x => valE (τ.ev x)) = (c.args.toList.map τ.ev).all valE := fun τ => by rw [List.all_map]; rfl
      rw [h1, h1, this]
    simp only [noSlots]
    split
    · rename_i f hc
      rw [h f (hf f hc), hm]
    · rfl
def wantedE (ops : Array Oper) (o : Oper) (σ : St) : Option Bool :=
  match o.guard with
  | none => some true
  | some (j, want) =>
    match (ops[j]?).bind (·.dst) with
    | some d =>
      match σ.t[d]? with
      | some (.one (.val .bool b)) => some (b == want)
      | some (.one .skp) => some false
      | _ => none
    | none => none
/-- One operation is done, or left out. -/
def Done (P : Program) (C : Cfg) (O : FuncId → List FSpec) (re : List Nat) (ops : Array Oper) (c : Rc) (i : Nat) (σ σ' : St) : Prop :=
  ∃ o, ops[i]? = some o ∧ (!isW o.op || okWr o.op) = true ∧
    ((wantedE ops o σ = some true ∧ ∃ e s, opR P C O re o σ = some (e, s) ∧ σ' = σ.set o.dst e s ∧ c = rcOf O o.op σ s) ∨
     (wantedE ops o σ = some false ∧ σ' = σ.set o.dst (.one .skp) σ.s ∧ c = ⟨false, [], 0⟩))
def Same (ops : Array Oper) (o : Oper) (σ σ2 : St) : Prop := ∀ d ∈ o.looksAt ops, σ2.t[d]? = σ.t[d]?
theorem Same.ev {o : Oper} {σ σ2 : St} (h : Same ops o σ σ2) : ∀ x ∈ o.op.operands.toList, σ2.ev x = σ.ev x := by
  intro x hx
  cases x with
  | tmp t =>
    have : t ∈ o.looksAt ops := by
      simp only [Oper.looksAt, List.mem_append, List.mem_filterMap]
      exact .inl ⟨.tmp t, hx, rfl⟩
    simp only [St.ev, List.getD_eq_getElem?_getD, h t this]
  | const v => rfl
  | «global» g => rfl
  | func f => rfl
theorem Same.wanted {o : Oper} {σ σ2 : St} (h : Same ops o σ σ2) : wantedE ops o σ2 = wantedE ops o σ := by
  unfold wantedE
  split
  · rfl
  · rename_i j want hg
    split
    · rename_i d hd
      have : d ∈ o.looksAt ops := by
        simp only [Oper.looksAt, hg, List.mem_append]
        exact .inr (by rw [hd]; simp)
      rw [h d this]
    · rfl
theorem did_reader {c : Rc} {i : Nat} {o : Oper} (hi : ops[i]? = some o) {σ σ' : St} (hc : c.w = false) (h : Done P C O re ops c i σ σ') : ∃ e, σ' = σ.set o.dst e σ.s ∧ ∀ σ2, Same ops o σ σ2 → (∀ k ∈ c.l, σ2.s[k]? = σ.s[k]?) → Done P C O re ops c i σ2 (σ2.set o.dst e σ2.s) := by
  obtain ⟨o', ho, hw, ⟨h1, e, s, h2, h3, h4⟩ | ⟨h1, h2, h3⟩⟩ := h
  · obtain rfl := Option.some.inj (hi.symm.trans ho)
    unfold rcOf at h4
    cases hF : rdOf σ o.op with
    | none =>
      rw [hF] at h4
      simp only at h4
      by_cases hns : noSlots O o.op σ = true
      · rw [if_pos hns] at h4
        obtain ⟨rfl, h5⟩ := reads_call hns h2
        refine ⟨e, h3, fun σ2 hs hk => ⟨o, hi, hw, .inl ⟨hs.wanted.trans h1, e, σ2.s, ?_, rfl, ?_⟩⟩⟩
        · rw [← h5 σ2.s]
          exact opR_congr hw rfl (fun x hx => (hs.ev x hx).trans (by cases x <;> rfl))
        · unfold rcOf
          rw [rdOf_congr hs.ev, hF]
          simp only
          rw [noSlots_congr hs.ev, if_pos hns, h4]
      · rw [if_neg hns] at h4; rw [h4] at hc; cases hc
    | some F =>
      rw [hF] at h4
      obtain ⟨rfl, h5⟩ := reads hF h2
      refine ⟨e, h3, fun σ2 hs hk => ⟨o, hi, hw, .inl ⟨hs.wanted.trans h1, e, σ2.s, ?_, rfl, ?_⟩⟩⟩
      · have h6 := h5 σ2.s (fun j hj => hk j (by rw [h4]; exact hj))
        rw [← h6]
        exact opR_congr hw rfl (fun x hx => (hs.ev x hx).trans (by cases x <;> rfl))
      · unfold rcOf
        rw [rdOf_congr hs.ev, hF, h4]
  · obtain rfl := Option.some.inj (hi.symm.trans ho)
    exact ⟨_, h2, fun σ2 hs hk => ⟨o, hi, hw, .inr ⟨hs.wanted.trans h1, rfl, h3⟩⟩⟩
theorem did_writer {c : Rc} {i : Nat} {o : Oper} (hi : ops[i]? = some o) {σ σ' : St} (hc : c.w = true) (h : Done P C O re ops c i σ σ') : ∃ e s', σ' = σ.set o.dst e s' ∧ c.n = σ.s.length ∧ (∀ k, k < c.n → k ∉ c.l → s'[k]? = σ.s[k]?) ∧ ∀ σ2, Same ops o σ σ2 → σ2.s = σ.s → Done P C O re ops c i σ2 (σ2.set o.dst e s') := by
  obtain ⟨o', ho, hw, ⟨h1, e, s, h2, h3, h4⟩ | ⟨h1, h2, h3⟩⟩ := h
  · obtain rfl := Option.some.inj (hi.symm.trans ho)
    unfold rcOf at h4
    cases hF : rdOf σ o.op with
    | some F => rw [hF] at h4; rw [h4] at hc; cases hc
    | none =>
      rw [hF] at h4
      simp only at h4
      by_cases hns : noSlots O o.op σ = true
      · rw [if_pos hns] at h4; rw [h4] at hc; cases hc
      rw [if_neg hns] at h4
      refine ⟨e, s, h3, by rw [h4], fun k hk hm => ?_, fun σ2 hs he => ⟨o, hi, hw, .inl ⟨hs.wanted.trans h1, e, s, ?_, rfl, ?_⟩⟩⟩
      · rw [h4] at hk hm
        exact touch hw hF h2 k hk hm
      · rw [← h2]
        exact opR_congr hw he hs.ev
      · unfold rcOf
        rw [rdOf_congr hs.ev, hF]
        simp only
        rw [noSlots_congr hs.ev, if_neg hns, h4, callM_congr he hs.ev, he]
  · rw [h3] at hc; cases hc
theorem same_set {o : Oper} {σ : St} {d : Option Nat} {e : Ent} {s : List Slot} (h : ∀ x, d = some x → x ∉ o.looksAt ops) : Same ops o σ (σ.set d e s) := by
  intro x hx
  cases d with
  | none => rfl
  | some d =>
    simp only [St.set, List.getElem?_set]
    split
    · rename_i hd; subst hd; exact absurd hx (h d rfl)
    · rfl
theorem Same.symm {o : Oper} {σ σ2 : St} (h : Same ops o σ σ2) : Same ops o σ2 σ := fun d hd => (h d hd).symm
theorem set_comm {σ : St} {d d' : Option Nat} {e e' : Ent} {s s' s2 : List Slot} (h : ∀ x, d = some x → d' ≠ some x) : (σ.set d e s).set d' e' s2 = (σ.set d' e' s').set d e s2 := by
  cases d with
  | none => cases d' <;> rfl
  | some d =>
    cases d' with
    | none => rfl
    | some d' =>
      simp only [St.set, St.mk.injEq, and_true]
      exact List.set_comm _ _ (fun he => h d rfl (by rw [he]))
/-- Two that may come either way round. -/
theorem did_swap {c b : Rc} {j i : Nat} {q o : Oper} (hj : ops[j]? = some q) (hi : ops[i]? = some o) (hap : q.apart ops o = true) (hd : dynP c b = true) {σ σ1 σ2 : St}
    (h1 : Done P C O re ops c j σ σ1) (h2 : Done P C O re ops b i σ1 σ2) : ∃ σ3, Done P C O re ops b i σ σ3 ∧ Done P C O re ops c j σ3 σ2 := by
  obtain ⟨a1, a2, a3⟩ := Oper.apart_spec hap
  unfold dynP at hd
  cases hc : c.w with
  | true =>
    obtain ⟨e, s', rfl, hn, ht, hk⟩ := did_writer hj hc h1
    rw [hc] at hd
    simp only [if_true, Bool.and_eq_true, Bool.not_eq_true'] at hd
    obtain ⟨hb, hd⟩ := hd
    simp only [List.all_eq_true, Bool.and_eq_true, decide_eq_true_eq, Bool.not_eq_true', List.contains_eq_mem, decide_eq_false_iff_not] at hd
    obtain ⟨e2, rfl, h3⟩ := did_reader hi hb h2
    have r1 := h3 σ (same_set a1).symm (fun k hk' => by
      have := hd k hk'
      cases q.dst <;> exact (ht k this.1 this.2).symm)
    refine ⟨_, r1, ?_⟩
    have r2 := hk (σ.set o.dst e2 σ.s) (same_set a3) (by cases o.dst <;> rfl)
    have : (σ.set q.dst e s').set o.dst e2 (σ.set q.dst e s').s = (σ.set o.dst e2 σ.s).set q.dst e s' := by
      rw [set_comm (s' := σ.s) (fun x hx => a2 x hx)]
      cases q.dst <;> rfl
    rw [this]
    exact r2
  | false =>
    obtain ⟨e, rfl, h3⟩ := did_reader hj hc h1
    rw [hc] at hd
    cases hb : b.w with
    | true =>
      rw [hb] at hd
      simp only [if_true, Bool.false_eq_true, if_false, List.all_eq_true, Bool.and_eq_true, decide_eq_true_eq, Bool.not_eq_true', List.contains_eq_mem, decide_eq_false_iff_not] at hd
      obtain ⟨e2, s', rfl, hn, ht, hk⟩ := did_writer hi hb h2
      have hs : (σ.set q.dst e σ.s).s = σ.s := by cases q.dst <;> rfl
      have r1 := hk σ (same_set a1).symm hs.symm
      refine ⟨_, r1, ?_⟩
      have r2 := h3 (σ.set o.dst e2 s') (same_set a3) (fun k hk' => by
        have := hd k hk'
        have h5 := ht k this.1 this.2
        rw [hs] at h5
        cases o.dst <;> exact h5)
      have : (σ.set q.dst e σ.s).set o.dst e2 s' = (σ.set o.dst e2 s').set q.dst e (σ.set o.dst e2 s').s := by
        rw [set_comm (s' := s') (fun x hx => a2 x hx)]
        cases o.dst <;> rfl
      rw [this]
      exact r2
    | false =>
      obtain ⟨e2, rfl, h4⟩ := did_reader hi hb h2
      have hs : (σ.set q.dst e σ.s).s = σ.s := by cases q.dst <;> rfl
      have r1 := h4 σ (same_set a1).symm (fun k _ => by rw [hs])
      refine ⟨_, r1, ?_⟩
      have r2 := h3 (σ.set o.dst e2 σ.s) (same_set a3) (fun k _ => by cases o.dst <;> rfl)
      have : (σ.set q.dst e σ.s).set o.dst e2 (σ.set q.dst e σ.s).s = (σ.set o.dst e2 σ.s).set q.dst e (σ.set o.dst e2 σ.s).s := by
        rw [hs, set_comm (s' := σ.s) (fun x hx => a2 x hx)]
        cases o.dst <;> rfl
      rw [this]
      exact r2
inductive RunD (P : Program) (C : Cfg) (O : FuncId → List FSpec) (re : List Nat) (ops : Array Oper) (rc : Nat → Rc) : List Nat → St → St → Prop where
  | nil (σ : St) : RunD P C O re ops rc [] σ σ
  | cons {i : Nat} {l : List Nat} {σ σ1 σ2 : St} (h : Done P C O re ops (rc i) i σ σ1) (r : RunD P C O re ops rc l σ1 σ2) : RunD P C O re ops rc (i :: l) σ σ2
def Swaps (ops : Array Oper) (rc : Nat → Rc) (j i : Nat) : Prop := ∃ q o, ops[j]? = some q ∧ ops[i]? = some o ∧ q.apart ops o = true ∧ dynP (rc j) (rc i) = true
theorem bubble {rc : Nat → Rc} {i : Nat} {post : List Nat} : ∀ {pre : List Nat} {σ σ' : St}, (∀ j ∈ pre, Swaps ops rc j i) → RunD P C O re ops rc (pre ++ i :: post) σ σ' → ∃ σ1, Done P C O re ops (rc i) i σ σ1 ∧ RunD P C O re ops rc (pre ++ post) σ1 σ'
  | [], σ, σ', hs, h => by cases h with | cons h r => exact ⟨_, h, r⟩
  | j :: pre, σ, σ', hs, h => by
    cases h with
    | cons h r =>
      obtain ⟨σ1, h1, r1⟩ := bubble (fun k hk => hs k (List.mem_cons_of_mem _ hk)) r
      obtain ⟨q, o, hj, hi, h3, h5⟩ := hs j List.mem_cons_self
      obtain ⟨σ3, k1, k2⟩ := did_swap hj hi h3 h5 h h1
      exact ⟨σ3, k1, .cons k2 r1⟩
theorem set_self' {α : Type} {l : List α} {i : Nat} {x : α} (h : l[i]? = some x) : l.set i x = l := by
  apply List.ext_getElem?
  intro j
  rw [List.getElem?_set]
  split
  · rename_i hj
    subst hj
    rw [h]
    split
    · rfl
    · rename_i hlt; rw [List.getElem?_eq_none (by omega)] at h; cases h
  · rfl
theorem runDraw_inv {R : Type} {K : St → List Rc → Option R} {r : R} (hok : ∀ (i : Nat) (o : Oper), ops[i]? = some o → (!isW o.op || okWr o.op) = true) : ∀ (n a : Nat) (σ : St) (rs : List Rc), rs.length = a → runDraw P C O re ops (List.range' a n) σ rs K = some r →
    ∃ ts σ', (∃ cs, ts = rs ++ cs) ∧ RunD P C O re ops (fun i => ts.getD i default) (List.range' a n) σ σ' ∧ K σ' ts = some r
  | 0, a, σ, rs, hl, h => ⟨rs, σ, ⟨[], by simp⟩, .nil _, h⟩
  | n + 1, a, σ, rs, hl, h => by
    rw [List.range'_succ] at h ⊢
    simp only [runDraw] at h
    cases ho : ops[a]? with
    | none => rw [ho] at h; cases h
    | some o =>
      rw [ho] at h
      simp only at h
      have fin : ∀ (c : Rc) (σ1 : St), Done P C O re ops c a σ σ1 → runDraw P C O re ops (List.range' (a + 1) n) σ1 (rs ++ [c]) K = some r → ∃ ts σ', (∃ cs, ts = rs ++ cs) ∧ RunD P C O re ops (fun i => ts.getD i default) (a :: List.range' (a + 1) n) σ σ' ∧ K σ' ts = some r := by
        intro c σ1 hd hr
        obtain ⟨ts, σ', ⟨cs, rfl⟩, h1, h2⟩ := runDraw_inv hok n (a + 1) σ1 (rs ++ [c]) (by simp [hl]) hr
        refine ⟨_, σ', ⟨c :: cs, by simp⟩, .cons ?_ h1, h2⟩
        have : (rs ++ [c] ++ cs).getD a default = c := by
          rw [List.getD_eq_getElem?_getD, List.append_assoc, List.getElem?_append_right (by omega)]
          simp [hl]
        rw [this]
        exact hd
      split at h
      · rename_i hg
        obtain ⟨e, s, h1, h2⟩ := opD_inv (hok a o ho) h
        exact fin _ _ ⟨o, ho, hok a o ho, .inl ⟨by simp [wantedE, hg], e, s, h1, rfl, rfl⟩⟩ h2
      · rename_i j want hg
        split at h
        · rename_i d hd
          split at h
          · rename_i b hb
            have hw : wantedE ops o σ = some (b == want) := by simp [wantedE, hg, hd, hb]
            cases b with
            | true =>
              have hs : (⟨σ.t.set d (goB true), σ.s⟩ : St) = σ := by rw [set_self' (x := goB true) hb]
              simp only [if_true, hs] at h
              cases want with
              | true =>
                simp only [if_true] at h
                obtain ⟨e, s, h1, h2⟩ := opD_inv (hok a o ho) h
                exact fin _ _ ⟨o, ho, hok a o ho, .inl ⟨hw, e, s, h1, rfl, rfl⟩⟩ h2
              | false => exact fin _ _ ⟨o, ho, hok a o ho, .inr ⟨hw, rfl, rfl⟩⟩ h
            | false =>
              have hs : (⟨σ.t.set d (goB false), σ.s⟩ : St) = σ := by rw [set_self' (x := goB false) hb]
              simp only [Bool.false_eq_true, if_false, hs] at h
              cases want with
              | true => exact fin _ _ ⟨o, ho, hok a o ho, .inr ⟨hw, rfl, rfl⟩⟩ h
              | false =>
                simp only [Bool.false_eq_true, if_false] at h
                obtain ⟨e, s, h1, h2⟩ := opD_inv (hok a o ho) h
                exact fin _ _ ⟨o, ho, hok a o ho, .inl ⟨hw, e, s, h1, rfl, rfl⟩⟩ h2
          · rename_i hb
            exact fin _ _ ⟨o, ho, hok a o ho, .inr ⟨by simp [wantedE, hg, hd, hb], rfl, rfl⟩⟩ h
          · cases h
        · cases h
/-! ### any order -/
structure StatD (ops : Array Oper) (A : List (List Nat)) : Prop where
  ok : ∀ (i : Nat) (o : Oper), ops[i]? = some o → (!isW o.op || okWr o.op) = true
  lt : ∀ (i : Nat) (o : Oper), ops[i]? = some o → ∀ j ∈ direct o, j < i
  anc : ∀ (i : Nat) (o : Oper), ops[i]? = some o → ∀ j ∈ A.getD i [], j ∈ direct o ∨ ∃ p ∈ direct o, j ∈ A.getD p []
  two : ∀ (i : Nat) (o : Oper), ops[i]? = some o → ∀ j, j < i → j ∈ A.getD i [] ∨ ∃ q, ops[j]? = some q ∧ q.apart ops o = true
theorem statD_ok {A : List (List Nat)} (h : statD ops A = true) : StatD ops A := by
  simp only [statD, List.all_eq_true, List.mem_range] at h
  have key : ∀ (i : Nat) (o : Oper), ops[i]? = some o → _ := fun i o ho => by
    have hi : i < ops.size := (Array.getElem?_eq_some_iff.1 ho).1
    have := h i hi
    rw [ho] at this
    simp only [Bool.and_eq_true] at this
    exact this
  refine ⟨fun i o ho => (key i o ho).1.2, fun i o ho j hj => ?_, fun i o ho j hj => ?_, fun i o ho j hj => ?_⟩
  · have := (key i o ho).1.1.1
    simp only [List.all_eq_true, decide_eq_true_eq] at this
    exact this j hj
  · have := (key i o ho).1.1.2
    simp only [List.all_eq_true, Bool.or_eq_true, List.any_eq_true, List.contains_eq_mem, decide_eq_true_eq] at this
    exact this j hj
  · have := (key i o ho).2
    simp only [List.all_eq_true, List.mem_range, Bool.or_eq_true, List.contains_eq_mem, decide_eq_true_eq] at this
    rcases this j hj with h | h
    · exact .inl h
    · split at h
      · rename_i q hq
        exact .inr ⟨q, hq, h⟩
      · cases h
theorem dynD_ok {n : Nat} {A : List (List Nat)} {rs : List Rc} (h : dynD n A rs = true) {i j : Nat} (hi : i < n) (hj : j < i) : j ∈ A.getD i [] ∨ dynP (rs.getD j default) (rs.getD i default) = true := by
  simp only [dynD, List.all_eq_true, List.mem_range, Bool.or_eq_true, List.contains_eq_mem, decide_eq_true_eq] at h
  rcases h i hi j hj with h | h
  · exact .inl h
  · split at h
    · rename_i a b ha hb
      exact .inr (by simp only [List.getD_eq_getElem?_getD, ha, hb]; exact h)
    · cases h
def left_ (n : Nat) (listed : Array Bool) : List Nat := (List.range n).filter fun i => !listed.getD i true
theorem left_set {n : Nat} {listed : Array Bool} (hs : listed.size = n) {i : Nat} (hi : i < n) : left_ n (listed.setIfInBounds i true) = (left_ n listed).filter (· != i) := by
  simp only [left_, List.filter_filter]
  apply List.filter_congr
  intro j hj
  have hj := List.mem_range.1 hj
  simp only [Array.getD_eq_getD_getElem?, Array.getElem?_setIfInBounds]
  by_cases h : i = j
  · subst h
    simp [hs, hi]
  · have : (j != i) = true := by simpa using fun e => h e.symm
    simp [h, this]
theorem mem_ready {listed : Array Bool} {i : Nat} : i ∈ Region.ready .any ops listed ↔ i ∈ left_ ops.size listed ∧ ∃ o, ops[i]? = some o ∧ ∀ j ∈ direct o, listed.getD j false = true := by
  simp only [Region.ready, left_, List.mem_filter, List.mem_range, Bool.and_eq_true]
  constructor
  · rintro ⟨h1, h2, h3⟩
    cases ho : ops[i]? with
    | none => rw [ho] at h3; simp at h3
    | some o =>
      rw [ho] at h3
      refine ⟨⟨h1, h2⟩, o, rfl, fun j hj => ?_⟩
      simp only [direct, List.mem_map, List.mem_filter] at hj
      obtain ⟨e, ⟨he, hb⟩, rfl⟩ := hj
      simp only [Option.map_some, Option.getD_some, Array.all_eq_true_iff_forall_mem] at h3
      have := h3 e (by simpa using he)
      simpa [hb] using this
  · rintro ⟨⟨h1, h2⟩, o, ho, h3⟩
    refine ⟨h1, h2, ?_⟩
    rw [ho]
    simp only [Option.map_some, Option.getD_some, Array.all_eq_true_iff_forall_mem]
    intro e he
    cases hb : Region.binds .any e with
    | false => simp
    | true =>
      have := h3 e.on (by simp only [direct, List.mem_map, List.mem_filter]; exact ⟨e, ⟨by simpa using he, hb⟩, rfl⟩)
      simp [this]
theorem ready_of_left {A : List (List Nat)} (st : StatD ops A) {listed : Array Bool} (hs : listed.size = ops.size) : ∀ i, i ∈ left_ ops.size listed → Region.ready .any ops listed ≠ [] := by
  intro i
  induction i using Nat.strongRecOn with
  | _ i ih =>
    intro hi
    have hlt : i < ops.size := by simp only [left_, List.mem_filter, List.mem_range] at hi; exact hi.1
    have ho : ops[i]? = some ops[i] := Array.getElem?_eq_getElem hlt
    by_cases h : ∀ j ∈ direct ops[i], listed.getD j false = true
    · exact List.ne_nil_of_mem (mem_ready.2 ⟨hi, _, ho, h⟩)
    · simp only [Classical.not_forall] at h
      obtain ⟨j, hj, hn⟩ := h
      have hji := st.lt i _ ho j hj
      refine ih j hji ?_
      simp only [left_, List.mem_filter, List.mem_range]
      refine ⟨by omega, ?_⟩
      have hjl : j < listed.size := by omega
      simp only [Array.getD_eq_getD_getElem?, Array.getElem?_eq_getElem hjl, Option.getD_some] at hn ⊢
      simpa using hn
theorem split_left {n : Nat} {listed : Array Bool} {i : Nat} (h : i ∈ left_ n listed) : ∃ pre post, left_ n listed = pre ++ i :: post ∧ (left_ n listed).filter (· != i) = pre ++ post ∧ ∀ j ∈ pre, j < i ∧ j ∈ left_ n listed := by
  have hp : (left_ n listed).Pairwise (· < ·) := (List.pairwise_lt_range).filter _
  obtain ⟨pre, post, he⟩ := List.append_of_mem h
  rw [he] at hp
  have h1 := List.pairwise_append.1 hp
  have h2 := List.pairwise_cons.1 h1.2.1
  refine ⟨pre, post, he, ?_, fun j hj => ⟨h1.2.2 j hj i List.mem_cons_self, by rw [he]; exact List.mem_append_left _ hj⟩⟩
  rw [he, List.filter_append, List.filter_cons]
  have e1 : pre.filter (· != i) = pre := List.filter_eq_self.2 fun j hj => by have := h1.2.2 j hj i List.mem_cons_self; simp; omega
  have e2 : post.filter (· != i) = post := List.filter_eq_self.2 fun j hj => by have := h2.1 j hj; simp; omega
  simp [e1, e2]
section
variable {S : Nat → Addr} {nl : Nat} {w0 : World} {F0 : Nat → Prop} {g0 : List Gh}
theorem cutB_pass {R : Type} {n : Int} {lo hi : Option Ent} {K K2 : Int → Int → Option R} (h : ∀ a b, K a b = K2 a b) : cutB n lo hi K = cutB n lo hi K2 := by
  have : K = K2 := funext fun a => funext fun b => h a b
  rw [this]
theorem sliceD_eq {R : Type} {xt : TypeId} {x : Ent} {lo hi : Option Ent} {s : List Slot} {K : Ent → List Slot → Option R} {r : R} (h : sliceD P xt x lo hi s (fun e => K e s) = some r) : sliceE P false xt x lo hi s K = some r := by
  unfold sliceD at h
  split at h
  · split at h
    · rename_i hj
      rw [← h]
      simp only [sliceE]
      cases P.underlying xt with
      | none => rfl
      | some d => cases d <;> first | rfl | simp only [hj]
    · cases h
  · rename_i hne
    rw [← h]
    unfold sliceE
    split <;> first
      | rfl
      | exact absurd rfl (hne _)
theorem lookupD_eq {R : Type} {t : TypeId} {m k : Ent} {ok : Bool} {s : List Slot} {K : Ent → List Slot → Option R} {r : R} (h : lookupD P t m k ok s (fun e => K e s) = some r) : lookupE P t m k ok s K = some r := by
  unfold lookupD at h
  unfold lookupE
  split at h
  · rename_i hmt
    try rw [hmt]
    try simp only
    split at h
    · split at h
      · rename_i hj
        try rw [hj]
        try simp only
        split at h
        · rename_i hz
          try rw [hz]
          try simp only
          split at h
          · rename_i hc
            rw [if_pos hc]
            split at h
            · rename_i hk him
              try rw [hk]
              rw [(implode1_nil him).2 s]
              exact h
            · cases h
          · cases h
        · cases h
      · cases h
    · cases h
  · cases h
theorem opD_ok {R : Type} {next : Act → World → Prop} {Q : Exit → Act → World → Prop} {K : Ent → List Slot → Option R} {r : R} {w : World} {Fz : Nat → Prop} {gs : List Gh} {a : Act} {o : Oper} (ok : CfgOk P C S) (hO : ∀ f sp, sp ∈ O f → SpecOk P C S f sp) {σ : St} (rel : Rel C S w Fz gs σ.s) (ht : Tmps C S w Fz gs σ.t a.tmps) (h : opD P C O re o σ K = some r) (hn : Next C S w Fz gs K r (fun v w' => next (a.put o.dst v) w')) : o.wp P a w next Q := by
  unfold opD at h
  split at h
  · rename_i t len parts hop
    exact wp_value (by unfold execOp; rw [hop]) (buildVal_ok rel (by rw [Array.toList_map]; exact ev_parts ht _) h) hn
  · rename_i t x lo hi hop
    have h2 := sliceD_eq h
    refine opE_ok (re := []) ok hO rel ht (K := K) (r := r) ?_ hn
    unfold opE
    rw [hop]
    simp only
    cases hd : o.dst with
    | none => exact h2
    | some d => exact h2
  · cases h
  · rename_i t m k b hop
    have h2 := lookupD_eq h
    refine opE_ok (re := []) ok hO rel ht (K := K) (r := r) ?_ hn
    unfold opE
    rw [hop]
    exact h2
  · exact opE_ok ok hO rel ht h hn
theorem frzT_ok {σ : St} {a : Act} {w : World} {Fz : Nat → Prop} {gs : List Gh} (i : Inv C S nl w0 F0 g0 σ a w Fz gs) (t : Nat) : ∃ Fz' gs', Inv C S nl w0 F0 g0 (frzT σ t) a w Fz' gs' := by
  unfold frzT
  split
  · split
    · rename_i j e ty l hj
      obtain ⟨g, hg⟩ := i.rel.gh hj
      obtain ⟨F1, r1, s1, _⟩ := i.rel.freeze gs.length hg hj
      exact ⟨F1, _, r1, i.tmps.fix (s1.fix ⟨_, i.rel⟩) (s1.ext' (Nat.le_refl _)), i.defers, i.step.trans (s1.le i.le), by rw [List.length_set]; exact i.le⟩
    · exact ⟨_, _, i⟩
  · exact ⟨_, _, i⟩
theorem frzTs_ok {a : Act} {w : World} : ∀ (l : List Nat) {σ : St} {Fz : Nat → Prop} {gs : List Gh}, Inv C S nl w0 F0 g0 σ a w Fz gs → ∃ Fz' gs', Inv C S nl w0 F0 g0 (l.foldl frzT σ) a w Fz' gs'
  | [], σ, Fz, gs, i => ⟨_, _, i⟩
  | t :: l, σ, Fz, gs, i => by
    obtain ⟨F1, g1, i1⟩ := frzT_ok i t
    exact frzTs_ok l i1
theorem did_ok (ok : CfgOk P C S) (hO : ∀ f sp, sp ∈ O f → SpecOk P C S f sp) {Q : Exit → Act → World → Prop} {nt : Nat} {c : Rc} {i : Nat} {σ σ1 : St} {a : Act} {w : World} {Fz : Nat → Prop} {gs : List Gh} (inv : Inv C S nl w0 F0 g0 σ a w Fz gs) (hnt : a.tmps.size = nt)
    (hd : Done P C O re ops c i σ σ1) {K : Act → World → Prop} (hK : ∀ a w Fz gs, Inv C S nl w0 F0 g0 σ1 a w Fz gs → a.tmps.size = nt → K a w) : wpOp P ops Q i K a w := by
  obtain ⟨o, ho, hw, hd⟩ := hd
  unfold wpOp
  rw [ho]
  simp only
  have wv : ∀ b, wantedE ops o σ = some b → Region.wanted o (yielded ops a.tmps) = b := by
    intro b hb
    unfold wantedE at hb
    split at hb
    · rename_i hg
      obtain rfl := Option.some.inj hb
      simp [Region.wanted, hg]
    · rename_i j want hg
      split at hb
      · rename_i d hdd
        split at hb
        · rename_i b' hb'
          obtain ⟨v, hv, hr⟩ := inv.tmps.get d _ hb'
          obtain rfl : v = .bool b' := by simpa [RepE, RepV, RepL, RepT] using hr
          have hy := yielded_eq hdd hv
          obtain rfl := Option.some.inj hb
          simp [Region.wanted, hg, hy]
        · rename_i hb'
          obtain ⟨v, hv, hr⟩ := inv.tmps.get d _ hb'
          obtain rfl : v = undef := hr
          obtain rfl := Option.some.inj hb
          exact wanted_skp hg hdd hv
        · cases hb
      · cases hb
  rcases hd with ⟨h1, e, s, h2, rfl, _⟩ | ⟨h1, rfl, _⟩
  · rw [if_pos (wv _ h1)]
    refine .inl (opD_ok (K := two) ok hO inv.rel inv.tmps h2 ?_)
    intro v w' Fz' gs' e' s' k1 k2 k3 k4
    obtain ⟨rfl, rfl⟩ := two_inj k4
    exact hK _ _ _ _ (inv.next k1 k2 k3 o.dst) (by rw [put_size]; exact hnt)
  · rw [if_neg (by rw [wv _ h1]; simp)]
    exact hK _ _ _ _ (inv.next (e := .one .skp) inv.rel rfl (Step.refl _ _ _ _) o.dst) (by rw [put_size]; exact hnt)
theorem any_ok (ok : CfgOk P C S) (hO : ∀ f sp, sp ∈ O f → SpecOk P C S f sp) {Q : Exit → Act → World → Prop} {nt : Nat} {A : List (List Nat)} (st : StatD ops A) {rc : Nat → Rc} (hdy : ∀ i j, i < ops.size → j < i → j ∈ A.getD i [] ∨ dynP (rc j) (rc i) = true) {σf : St}
    (hQ : ∀ a w Fz gs, Inv C S nl w0 F0 g0 σf a w Fz gs → a.tmps.size = nt → Q .normal a w) : ∀ (fuel : Nat) (listed : Array Bool) (σ : St) (a : Act) (w : World) (Fz : Nat → Prop) (gs : List Gh), listed.size = ops.size → fuel = (left_ ops.size listed).length →
    (∀ (i : Nat) (o : Oper), i < ops.size → listed.getD i false = true → ∀ j ∈ A.getD i [], listed.getD j false = true) → RunD P C O re ops rc (left_ ops.size listed) σ σf → Inv C S nl w0 F0 g0 σ a w Fz gs → a.tmps.size = nt → wpAny P .any ops Q fuel listed a w
  | 0, listed, σ, a, w, Fz, gs, hs, hf, hcl, hr, inv, hnt => by
    have hl : left_ ops.size listed = [] := List.eq_nil_of_length_eq_zero hf.symm
    rw [hl] at hr
    cases hr
    refine ⟨?_, hQ a w Fz gs inv hnt⟩
    cases hrd : Region.ready .any ops listed with
    | nil => rfl
    | cons x xs =>
      have : x ∈ Region.ready .any ops listed := by rw [hrd]; exact List.mem_cons_self
      have := (mem_ready.1 this).1
      rw [hl] at this
      cases this
  | fuel + 1, listed, σ, a, w, Fz, gs, hs, hf, hcl, hr, inv, hnt => by
    refine ⟨fun h0 => ?_, fun i hi => ?_⟩
    · cases hl : left_ ops.size listed with
      | nil => rw [hl] at hf; cases hf
      | cons x xs => exact absurd h0 (ready_of_left st hs x (by rw [hl]; exact List.mem_cons_self))
    · obtain ⟨hil, o, ho, hdir⟩ := mem_ready.1 hi
      have hlt : i < ops.size := (Array.getElem?_eq_some_iff.1 ho).1
      have hanc : ∀ j ∈ A.getD i [], listed.getD j false = true := by
        intro j hj
        rcases st.anc i o ho j hj with h | ⟨p, hp, h⟩
        · exact hdir j h
        · have hpi := st.lt i o ho p hp
          exact hcl p o (by omega) (hdir p hp) j h
      obtain ⟨pre, post, h1, h2, h3⟩ := split_left hil
      rw [h1] at hr
      have notl : ∀ j ∈ left_ ops.size listed, listed.getD j false ≠ true := by
        intro j hj hc
        simp only [left_, List.mem_filter, List.mem_range] at hj
        have hjl : j < listed.size := by omega
        simp only [Array.getD_eq_getD_getElem?, Array.getElem?_eq_getElem hjl, Option.getD_some] at hj hc
        rw [hc] at hj
        simp at hj
      obtain ⟨σ1, hd, hr1⟩ := bubble (fun j hj => by
        obtain ⟨hji, hjl⟩ := h3 j hj
        have hna : j ∉ A.getD i [] := fun h => notl j hjl (hanc j h)
        rcases st.two i o ho j hji with h | ⟨q, hq, h4⟩
        · exact absurd h hna
        · rcases hdy i j hlt hji with h | h
          · exact absurd h hna
          · exact ⟨q, o, hq, ho, h4, h⟩) hr
      refine did_ok ok hO inv hnt hd fun a' w' Fz' gs' inv' hnt' => ?_
      refine any_ok ok hO st hdy hQ fuel (listed.setIfInBounds i true) σ1 a' w' Fz' gs' (by simpa using hs) ?_ ?_ ?_ inv' hnt'
      · rw [left_set hs hlt, h2]
        rw [h1] at hf
        simp only [List.length_append, List.length_cons] at hf ⊢
        omega
      · intro k q hk hlk j hj
        simp only [Array.getD_eq_getD_getElem?, Array.getElem?_setIfInBounds] at hlk ⊢
        have up : listed.getD j false = true → (if i = j then if i < listed.size then some true else none else listed[j]?).getD false = true := by
          intro h
          split
          · rename_i e; subst e; rw [if_pos (by omega)]; rfl
          · simpa [Array.getD_eq_getD_getElem?] using h
        apply up
        by_cases hik : i = k
        · subst hik; exact hanc j hj
        · rw [if_neg hik] at hlk
          exact hcl k q hk (by simpa [Array.getD_eq_getD_getElem?] using hlk) j hj
      · rw [left_set hs hlt, h2]; exact hr1
theorem left_all (n : Nat) : left_ n (Array.replicate n false) = List.range n := by
  simp only [left_]
  apply List.filter_eq_self.2
  intro i hi
  have := List.mem_range.1 hi
  simp [Array.getD_eq_getD_getElem?, this]
theorem drew_inv {σ : St} {a : Act} {w : World} {Fz : Nat → Prop} {gs : List Gh} (i : Inv C S nl w0 F0 g0 σ a w Fz gs) : Inv C S nl w0 F0 g0 σ a { w with drawn := w.drawn + 1 } Fz gs := by
  have m : More w { w with drawn := w.drawn + 1 } := ⟨rfl, rfl, rfl, Nat.le_refl _, fun _ _ => rfl⟩
  obtain ⟨r, s⟩ := i.rel.more m gs.length
  exact ⟨r, i.tmps.fix (m.fix i.rel) (s.ext' (Nat.le_refl _)), i.defers, i.step.trans (s.le i.le), i.le⟩
theorem draw_ok {R : Type} (mix : P.follows .mixedOrders = true) (ok : CfgOk P C S) (hO : ∀ f sp, sp ∈ O f → SpecOk P C S f sp) {Q : Exit → Act → World → Prop} {nt id : Nat} {K : St → Option R} {r : R} {σ : St} {a : Act} {w : World} {Fz : Nat → Prop} {gs : List Gh}
    (inv : Inv C S nl w0 F0 g0 σ a w Fz gs) (hnt : a.tmps.size = nt) (hst : statD ops (mkAnc ops) = true) (h : runDraw P C O re ops (List.range ops.size) σ [] (fun σ rs => if dynD ops.size (mkAnc ops) rs then K σ else none) = some r)
    (hQ : ∀ σ a w Fz gs, Inv C S nl w0 F0 g0 σ a w Fz gs → a.tmps.size = nt → K σ = some r → Q .normal a w) : (Code.region id ops true).wp P Q a w := by
  have st := statD_ok hst
  rw [List.range_eq_range'] at h
  obtain ⟨ts, σf, _, hr, hk⟩ := runDraw_inv st.ok ops.size 0 σ [] rfl h
  split at hk
  · rename_i hdy
    refine wp_region_any mix (any_ok ok hO st (rc := fun i => ts.getD i default) (fun i j hi hj => dynD_ok hdy hi hj) (fun a w Fz gs i hn => hQ σf a w Fz gs i hn hk) ops.size _ σ a _ Fz gs (by simp) (by rw [left_all]; simp) ?_ (by rw [left_all, List.range_eq_range']; exact hr) (drew_inv inv) hnt)
    intro i o hi hl
    simp [Array.getD_eq_getD_getElem?, hi] at hl
  · cases hk
end
end
end Go.Proofs.YtnajjhjbkanigaaDoor.Cm
