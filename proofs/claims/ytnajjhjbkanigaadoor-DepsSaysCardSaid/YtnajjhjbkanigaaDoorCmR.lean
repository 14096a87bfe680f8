/- Code as plain functions: each operation does what is read of it. By this session. -/
import Derived.Test.YtnajjhjbkanigaaDoorCmQ
namespace Go.Proofs.YtnajjhjbkanigaaDoor.Cm
open Go
set_option linter.unusedVariables false
set_option linter.unusedSimpArgs false
section
variable {P : Program} {C : Cfg} {S : Nat → Addr} {w : World} {Fz : Nat → Prop} {gs : List Gh} {R : Type}
structure Tmps (C : Cfg) (S : Nat → Addr) (w : World) (Fz : Nat → Prop) (gs : List Gh) (t : List Ent) (tmps : Array Value) : Prop where
  size : tmps.size = t.length
  get : ∀ (i : Nat) (e : Ent), t[i]? = some e → ∃ v, tmps[i]? = some v ∧ RepE C S w Fz gs e v
theorem ev_rep {σ : St} {a : Act} (ht : Tmps C S w Fz gs σ.t a.tmps) (x : Operand) : RepE C S w Fz gs (σ.ev x) (a.eval x) := by
  cases x with
  | tmp t =>
    show RepE C S w Fz gs (σ.t.getD t (.one .undef)) (a.tmps.getD t undef)
    cases h : σ.t[t]? with
    | none => rw [List.getD_eq_getElem?_getD, h]; trivial
    | some e =>
      obtain ⟨v, h1, h2⟩ := ht.get t e h
      rw [List.getD_eq_getElem?_getD, h, Array.getD_eq_getD_getElem?, h1]
      exact h2
  | const v => exact entOf_rep v
  | global g => rfl
  | func f => exact ⟨[], rfl, rfl, fun i c h => by simp at h⟩
theorem ev_reps {σ : St} {a : Act} (ht : Tmps C S w Fz gs σ.t a.tmps) : ∀ (xs : List Operand), RepEs C S w Fz gs (xs.map σ.ev) (xs.map a.eval)
  | [] => rfl
  | x :: xs => ⟨_, _, rfl, ev_rep ht x, ev_reps ht xs⟩
theorem ev_parts {σ : St} {a : Act} (ht : Tmps C S w Fz gs σ.t a.tmps) : ∀ (xs : List (Nat × Operand)), RepParts C S w Fz gs (xs.map fun p => (p.1, σ.ev p.2)) (xs.map fun p => (p.1, a.eval p.2))
  | [] => rfl
  | x :: xs => ⟨_, _, rfl, rfl, ev_rep ht x.2, ev_parts ht xs⟩
theorem ev_opt {σ : St} {a : Act} (ht : Tmps C S w Fz gs σ.t a.tmps) (x : Option Operand) : RepO C S w Fz gs (x.map σ.ev) (x.map a.eval) := by
  cases x with
  | none => trivial
  | some x => exact ev_rep ht x
theorem RepEs.append {w : World} {Fz : Nat → Prop} {gs : List Gh} : ∀ {l1 l2 : List Ent} {v1 v2 : List Value}, RepEs C S w Fz gs l1 v1 → RepEs C S w Fz gs l2 v2 → RepEs C S w Fz gs (l1 ++ l2) (v1 ++ v2)
  | [], l2, v1, v2, r1, r2 => by rw [show v1 = [] from r1]; exact r2
  | l :: l1, l2, v1, v2, ⟨v, vs, h1, h2, h3⟩, r2 => ⟨v, vs ++ v2, by rw [h1]; rfl, h2, RepEs.append h3 r2⟩
theorem caps_rep {w : World} {Fz : Nat → Prop} {gs : List Gh} : ∀ {caps : List Nat} {vs : List Value}, vs.length = caps.length → (∀ (i c : Nat), caps[i]? = some c → ∃ (g : Gh) (b : Nat), gs[c]? = some g ∧ g.v = .pointer (some ⟨b, 0, none⟩) ∧ vs[i]? = some (.pointer (some ⟨b, 0, none⟩))) →
    RepEs C S w Fz gs (caps.map fun j => .one (.ptr j 0)) vs
  | [], [], _, _ => rfl
  | [], _ :: _, h, _ => by simp at h
  | _ :: _, [], h, _ => by simp at h
  | c :: caps, v :: vs, h, hc => by
    obtain ⟨g, b, h1, h2, h3⟩ := hc 0 c rfl
    simp at h3
    subst h3
    exact ⟨_, vs, rfl, ptr_rep h1 h2, caps_rep (by simpa using h) (fun i c' hi => by simpa using hc (i + 1) c' (by simpa using hi))⟩
section
variable {o : Oper} {a : Act} {next : Act → World → Prop} {Q : Exit → Act → World → Prop} {K : Ent → List Slot → Option R} {r : R}
def Next (C : Cfg) (S : Nat → Addr) (w : World) (Fz : Nat → Prop) (gs : List Gh) (K : Ent → List Slot → Option R) (r : R) (go : Value → World → Prop) : Prop :=
  ∀ v w' Fz' gs' e s', Rel C S w' Fz' gs' s' → RepE C S w' Fz' gs' e v → Step gs.length w Fz gs w' Fz' gs' → K e s' = some r → go v w'
theorem wp_value {s : Sem Value} (he : execOp a.eval o = (do pure (.value (← s)))) (hd : Did P C S w Fz gs (s.run P w) K r) (hn : Next C S w Fz gs K r (fun v w' => next (a.put o.dst v) w')) : o.wp P a w next Q := by
  obtain ⟨v, w', Fz', gs', e, s', h1, h2, h3, h4, h5⟩ := hd
  unfold Oper.wp
  rw [he]
  simp only [Sem.run_bind, h1, Result.andThen_ok, Sem.run_pure, Oper.upon_value]
  exact hn v w' Fz' gs' e s' h2 h3 h4 h5
theorem wp_pure {v : Value} {e : Ent} {tbl : List Slot} (he : execOp a.eval o = pure (.value v)) (rel : Rel C S w Fz gs tbl) (hv : RepE C S w Fz gs e v) (hk : K e tbl = some r) (hn : Next C S w Fz gs K r (fun v w' => next (a.put o.dst v) w')) : o.wp P a w next Q := by
  unfold Oper.wp
  rw [he]
  exact hn v w Fz gs e tbl rel hv (Step.refl _ _ _ _) hk
theorem wp_skip' {s : Sem Unit} {w' : World} {Fz' : Nat → Prop} {gs' : List Gh} {s' : List Slot} (he : execOp a.eval o = (do s; pure .skip)) (hr : s.run P w = .ok () w') (h2 : Rel C S w' Fz' gs' s') (h4 : Step gs.length w Fz gs w' Fz' gs') (h5 : K (.one .undef) s' = some r)
    (hn : Next C S w Fz gs K r (fun v w' => next (a.put o.dst v) w')) : o.wp P a w next Q := by
  unfold Oper.wp
  rw [he]
  simp only [Sem.run_bind, hr, Result.andThen_ok, Sem.run_pure, Oper.upon_skip]
  exact hn undef w' Fz' gs' (.one .undef) s' h2 trivial h4 h5
theorem call_ok {O : FuncId → List FSpec} (hO : ∀ f sp, sp ∈ O f → SpecOk P C S f sp) {tbl : List Slot} (rel : Rel C S w Fz gs tbl) {args : List Ent} {vs : List Value} (hr : RepEs C S w Fz gs args vs) {f : FuncId} : ∀ {l : List FSpec}, (∀ sp ∈ l, sp ∈ O f) → tryS args tbl K l = some r →
    (∃ fn, P.funcs[f]? = some fn ∧ fn.body.isSome = true ∧ (fn.name == "runtime.NumGoroutine") = false) ∧ Calls P f vs.toArray w (fun e w' => ∃ v Fz' gs' o s', e = .returned v ∧ Rel C S w' Fz' gs' s' ∧ RepE C S w' Fz' gs' o v ∧ Step gs.length w Fz gs w' Fz' gs' ∧ K o s' = some r)
  | [], _, h => by cases h
  | sp :: l, hl, h => by
    simp only [tryS] at h
    split at h
    · rename_i x c hc
      split at h
      · rename_i y hy
        rw [decS_eq] at h
        split at h
        · rename_i e he
          obtain ⟨hf, hs⟩ := hO f sp (hl sp (by simp))
          obtain ⟨F1, g1, r1, s1, hp, ok, hlen, hes, rc⟩ := conf_ok rel List.nodup_nil (by simp) hr hc
          refine ⟨hf, (hs w F1 _ vs x y rc hes hy).mono fun ev w' ⟨v, F2, gc, o, e1, r2, e2, e3, s2⟩ => ?_⟩
          rw [he] at e2
          obtain rfl : e = o := by simpa using e2
          obtain ⟨gs', q1, q2, q3⟩ := call_back r1 s1 ok hlen rc r2 e3 s2 (ext_le (s1.ext' (Nat.le_refl _)))
          exact ⟨v, F2, gs', _, _, e1, q1, q2, q3, h⟩
        · cases h
      · cases h
    · exact call_ok hO rel hr (fun sp' h' => hl sp' (List.mem_cons_of_mem _ h')) h
end
end
end Go.Proofs.YtnajjhjbkanigaaDoor.Cm
