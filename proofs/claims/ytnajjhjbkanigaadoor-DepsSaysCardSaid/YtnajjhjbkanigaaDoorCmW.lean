/- Code as plain functions: what is printed of a function, put together. By this session. -/
import Derived.Test.YtnajjhjbkanigaaDoorCmV
namespace Go.Proofs.YtnajjhjbkanigaaDoor.Cm
open Go
set_option linter.unusedVariables false

def bodyOf (f : Func) : Code := match f.body with | some c => c | none => .skip
def asc (l : List (FuncId × FSpec)) (f : FuncId) : List FSpec := (l.filter fun p => p.1 == f).map (·.2)
/-- The loops' bodies, and what stands ahead of another part, in the order of the text. -/
def loopsOf : Code → List Code
  | .seq a b => loopsOf a ++ loopsOf b
  | .cond _ a b => loopsOf a ++ loopsOf b
  | .block _ c => loopsOf c
  | .loop c => c :: loopsOf c
  | _ => []
def cutsOf : Code → List (Nat × Code)
  | .seq a b => (keyOf b, a) :: (cutsOf a ++ cutsOf b)
  | .cond _ a b => cutsOf a ++ cutsOf b
  | .block _ c => cutsOf c
  | .loop c => cutsOf c
  | _ => []
def handsOf : Code → List (Code × Code)
  | .seq a b => (a, b) :: (handsOf a ++ handsOf b)
  | .cond _ a b => handsOf a ++ handsOf b
  | .block _ c => handsOf c
  | .loop c => handsOf c
  | _ => []
section
variable {P : Program} {C : Cfg} {S : Nat → Addr} {O : FuncId → List FSpec} {n nl nt : Nat} {H : Hints}
def LoopP (P : Program) (C : Cfg) (O : FuncId → List FSpec) (n nl nt : Nat) (H : Hints) (c : Code) : Prop := match H.loop (keyOf c) with | some h => LoopOk P C O n nl nt H h c ∧ (match H.loop2 (keyOf c) with | some h => LoopOk P C O n nl nt H h c | none => True) | none => True
def CutP (P : Program) (C : Cfg) (O : FuncId → List FSpec) (n nl nt : Nat) (H : Hints) (a : Nat × Code) : Prop := match H.cut a.1 with | some h => CutOk P C O n nl nt H h a.2 | none => True
theorem obl_lists : ∀ c : Code, (∀ x ∈ loopsOf c, LoopP P C O n nl nt H x) → (∀ x ∈ cutsOf c, CutP P C O n nl nt H x) → (∀ x ∈ handsOf c, HandP P C n nl nt H x.1 x.2) → Obl P C O n nl nt H c
  | .seq a b, h1, h2, h3 => ⟨h2 (keyOf b, a) (by simp [cutsOf]), h3 (a, b) (by simp [handsOf]), obl_lists a (fun x hx => h1 x (by simp [loopsOf, hx])) (fun x hx => h2 x (by simp [cutsOf, hx])) (fun x hx => h3 x (by simp [handsOf, hx])),
      obl_lists b (fun x hx => h1 x (by simp [loopsOf, hx])) (fun x hx => h2 x (by simp [cutsOf, hx])) (fun x hx => h3 x (by simp [handsOf, hx]))⟩
  | .cond _ a b, h1, h2, h3 => ⟨obl_lists a (fun x hx => h1 x (by simp [loopsOf, hx])) (fun x hx => h2 x (by simp [cutsOf, hx])) (fun x hx => h3 x (by simp [handsOf, hx])),
      obl_lists b (fun x hx => h1 x (by simp [loopsOf, hx])) (fun x hx => h2 x (by simp [cutsOf, hx])) (fun x hx => h3 x (by simp [handsOf, hx]))⟩
  | .block _ c, h1, h2, h3 => obl_lists c h1 h2 h3
  | .loop c, h1, h2, h3 => ⟨h1 c (by simp [loopsOf]), obl_lists c (fun x hx => h1 x (by simp [loopsOf, hx])) h2 h3⟩
  | .skip, _, _, _ => trivial
  | .region .., _, _, _ => trivial
  | .exit _, _, _, _ => trivial
  | .ret, _, _, _ => trivial
  | .scope _, _, _, _ => trivial
  | .label _, _, _, _ => trivial
  | .goto _, _, _, _ => trivial
  | .refuse _, _, _, _ => trivial
  | .rangeFunc _ _ _ _, _, _, _ => trivial
/-- The first k of a list have it. -/
inductive Up {α : Type} (d : α) (p : α → Prop) (l : List α) : Nat → Prop where
  | zero : Up d p l 0
  | succ {k : Nat} (h : Up d p l k) (hk : p (l.getD k d)) : Up d p l (k + 1)
theorem Up.get {α : Type} {d : α} {p : α → Prop} {l : List α} {k : Nat} (h : Up d p l k) : ∀ i, i < k → p (l.getD i d) := by
  induction h with
  | zero => intro i hi; omega
  | succ h hk ih =>
    intro i hi
    rename_i k
    rcases Nat.lt_or_ge i k with h1 | h1
    · exact ih i h1
    · obtain rfl : i = k := by omega
      exact hk
theorem Up.all {α : Type} {d : α} {p : α → Prop} {l : List α} {k : Nat} (h : Up d p l k) (hl : l.length = k) : ∀ x ∈ l, p x := by
  intro x hx
  obtain ⟨i, hi, rfl⟩ := List.mem_iff_getElem.1 hx
  have := h.get i (by omega)
  simpa [List.getD, List.getElem?_eq_getElem hi] using this
theorem obl_of {c : Code} {i j : Nat} (h1 : (loopsOf c).length = i) (h2 : (cutsOf c).length = j) (u1 : Up Code.skip (LoopP P C O n nl nt H) (loopsOf c) i) (u2 : Up (0, Code.skip) (CutP P C O n nl nt H) (cutsOf c) j) (u3 : ∀ x ∈ handsOf c, HandP P C n nl nt H x.1 x.2) : Obl P C O n nl nt H c :=
  obl_lists c (u1.all h1) (u2.all h2) u3
def HandQ (P : Program) (C : Cfg) (n nl nt : Nat) (H : Hints) (x : Code × Code) : Prop := HandP P C n nl nt H x.1 x.2
theorem hdz {l : List (Code × Code)} : Up (Code.skip, Code.skip) (HandQ P C n nl nt H) l 0 := .zero
theorem hdo {l : List (Code × Code)} {k : Nat} (u : Up (Code.skip, Code.skip) (HandQ P C n nl nt H) l k) (h : H.hand (keyOf (l.getD k (Code.skip, Code.skip)).1) = none) : Up (Code.skip, Code.skip) (HandQ P C n nl nt H) l (k + 1) := .succ u (by unfold HandQ HandP; rw [h]; split <;> trivial)
theorem hds {l : List (Code × Code)} {k : Nat} (u : Up (Code.skip, Code.skip) (HandQ P C n nl nt H) l k) {p : Prop} (h : HandQ P C n nl nt H (l.getD k (Code.skip, Code.skip)) = p) (hp : p) : Up (Code.skip, Code.skip) (HandQ P C n nl nt H) l (k + 1) := .succ u (by rw [h]; exact hp)
theorem hdall {c : Code} {k : Nat} (h : (handsOf c).length = k) (u : Up (Code.skip, Code.skip) (HandQ P C n nl nt H) (handsOf c) k) : ∀ x ∈ handsOf c, HandP P C n nl nt H x.1 x.2 := u.all h
theorem hn {c : Code} (h : ∀ k, H.hand k = none) : ∀ x ∈ handsOf c, HandP P C n nl nt H x.1 x.2 := fun x _ => by unfold HandP; rw [h]; split <;> trivial
theorem lz {l : List Code} : Up Code.skip (LoopP P C O n nl nt H) l 0 := .zero
theorem ln {l : List Code} {k : Nat} (u : Up Code.skip (LoopP P C O n nl nt H) l k) (h : H.loop (keyOf (l.getD k .skip)) = none) : Up Code.skip (LoopP P C O n nl nt H) l (k + 1) := .succ u (by unfold LoopP; rw [h]; trivial)
theorem ls {l : List Code} {k : Nat} {x : Hint} (u : Up Code.skip (LoopP P C O n nl nt H) l k) (h : H.loop (keyOf (l.getD k .skip)) = some x) (h2 : H.loop2 (keyOf (l.getD k .skip)) = none) (o : LoopOk P C O n nl nt H x (l.getD k .skip)) : Up Code.skip (LoopP P C O n nl nt H) l (k + 1) := .succ u (by unfold LoopP; rw [h, h2]; exact ⟨o, trivial⟩)
theorem ls2 {l : List Code} {k : Nat} {x x2 : Hint} (u : Up Code.skip (LoopP P C O n nl nt H) l k) (h : H.loop (keyOf (l.getD k .skip)) = some x) (h2 : H.loop2 (keyOf (l.getD k .skip)) = some x2) (o : LoopOk P C O n nl nt H x (l.getD k .skip)) (o2 : LoopOk P C O n nl nt H x2 (l.getD k .skip)) : Up Code.skip (LoopP P C O n nl nt H) l (k + 1) := .succ u (by unfold LoopP; rw [h, h2]; exact ⟨o, o2⟩)
theorem cz {l : List (Nat × Code)} : Up (0, Code.skip) (CutP P C O n nl nt H) l 0 := .zero
theorem cn {l : List (Nat × Code)} {k : Nat} (u : Up (0, Code.skip) (CutP P C O n nl nt H) l k) (h : H.cut (l.getD k (0, Code.skip)).1 = none) : Up (0, Code.skip) (CutP P C O n nl nt H) l (k + 1) := .succ u (by unfold CutP; rw [h]; trivial)
theorem cs {l : List (Nat × Code)} {k : Nat} {x : Hint} (u : Up (0, Code.skip) (CutP P C O n nl nt H) l k) (h : H.cut (l.getD k (0, Code.skip)).1 = some x) (o : CutOk P C O n nl nt H x (l.getD k (0, Code.skip)).2) : Up (0, Code.skip) (CutP P C O n nl nt H) l (k + 1) := .succ u (by unfold CutP; rw [h]; exact o)

theorem asc_nil : ∀ f sp, sp ∈ asc [] f → SpecOk P C S f sp := fun f sp h => by simp [asc] at h
theorem asc_cons {f : FuncId} {sp : FSpec} {l : List (FuncId × FSpec)} (h : SpecOk P C S f sp) (r : ∀ f sp, sp ∈ asc l f → SpecOk P C S f sp) : ∀ g sq, sq ∈ asc ((f, sp) :: l) g → SpecOk P C S g sq := by
  intro g sq hm
  simp only [asc, List.filter_cons] at hm
  by_cases hfg : f = g
  · subst hfg
    simp only [beq_self_eq_true, if_true, List.map_cons, List.mem_cons] at hm
    rcases hm with rfl | hm
    · exact h
    · exact r _ _ hm
  · have : (f == g) = false := by simpa using hfg
    simp only [this] at hm
    exact r _ _ hm
theorem fn_all {O : Nat → FuncId → List FSpec} {H : Nat → Hints} {f : FuncId} {fn : Func} {body : Code} {ins : Sh} {outs : List Sh} {sem : Nat → ins.T → Option (OutsT outs)} (ok : CfgOk P C S)
    (hf : P.funcs[f]? = some fn) (hb : fn.body = some body) (hname : (fn.name == "runtime.NumGoroutine") = false) (hnt : ins.es.length ≤ fn.ntmps) (houts : (outs.all fun h => h.es.length == 1) = true)
    (h0 : ∀ x, sem 0 x = none) (hs : ∀ n x, sem (n + 1) x = runFn P C (O n) n (H n) fn body ins outs x) (ob : ∀ n, Obl P C (O n) n ins.ss.length fn.ntmps (H n) body)
    (hO : ∀ n, SpecOk P C S f ⟨ins, outs, sem n⟩ → ∀ g sp, sp ∈ O n g → SpecOk P C S g sp) : ∀ n, SpecOk P C S f ⟨ins, outs, sem n⟩
  | 0 => ⟨⟨fn, hf, by rw [hb]; rfl, hname⟩, fun w Fz gs vs x y rel hr hy => by simp only [h0] at hy; cases hy⟩
  | n + 1 => fn_ok ok (hO n (fn_all ok hf hb hname hnt houts h0 hs ob hO n)) hf hb hname hnt (ob n) (hs n) houts
end
end Go.Proofs.YtnajjhjbkanigaaDoor.Cm
