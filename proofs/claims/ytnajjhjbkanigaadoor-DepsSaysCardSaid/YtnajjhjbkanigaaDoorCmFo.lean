/- Code as plain functions: contracts of the library, brought over. By this session. -/
import Derived.Test.YtnajjhjbkanigaaDoorCmW
import Derived.Lib.LaidTab
import Derived.Sort.Grow
import Derived.Shelf.Strconv.Itoa4
import Derived.Shelf.Strings.OnBuilder
namespace Go.Proofs.YtnajjhjbkanigaaDoor.Cm
open Go Go.RowKit Go.Sort
set_option linter.unusedVariables false
/-- A table: a variable that holds just these. -/
def tabP {α : Type} (k : α → Value) (zs : List α) (o : Option Obj) : Prop := ∃ t l, o = some (.cells (zs.map k).toArray t l)
section
variable {P : Program} {C : Cfg} {S : Nat → Addr} {f : FuncId}
theorem tab_is {w : World} {Fz : Nat → Prop} {gs : List Gh} {tbl : List Slot} (r : Rel C S w Fz gs tbl) {g : Nat} {name : String} {k : IntKind} {zs : List Int} (hm : (g, tabP (fun z => Value.int k z) zs) ∈ C.tabs) (hg : P.globalNamed name = some g) : Lib.TabIs P w name k zs := by
  obtain ⟨_, t, l, h⟩ := r.tab _ hm
  simp only at h
  simp [Lib.TabIs, World.var?, hg, h]
theorem SpecOk.weaken {P : Program} {C : Cfg} {S : Nat → Addr} {f : FuncId} {ins : Sh} {outs : List Sh} {sem sem' : ins.T → Option (OutsT outs)} (h : SpecOk P C S f ⟨ins, outs, sem⟩) (hw : ∀ x y, sem' x = some y → sem x = some y) : SpecOk P C S f ⟨ins, outs, sem'⟩ :=
  ⟨h.1, fun w Fz gs vs x y r1 r2 hy => h.2 w Fz gs vs x y r1 r2 (hw x y hy)⟩
theorem both_same {R : Type} {K : Bool → Option R} {r : Option R} (h1 : K true = r) (h2 : K false = r) : both K = r := by
  unfold both
  rw [if_pos (h1.trans h2.symm), h1]
theorem SpecOk.plain {es : List ESh} {o : ESh} {sem : (⟨es, []⟩ : Sh).T → Option (OutsT [⟨[o], []⟩])} (hf : ∃ fn, P.funcs[f]? = some fn ∧ fn.body.isSome = true ∧ (fn.name == "runtime.NumGoroutine") = false)
    (h : ∀ (w : World) (Fz : Nat → Prop) (gs : List Gh) (vs : List Value) x y, Rel C S w Fz gs [] → RepEs C S w Fz gs (packEs es x.1) vs → sem x = some y → Calls P f vs.toArray w (fun e w' => ∃ v, e = .returned v ∧ More w w' ∧ RepE C S w' Fz gs (packE o y.1.1) v)) :
    SpecOk P C S f ⟨⟨es, []⟩, [⟨[o], []⟩], sem⟩ := by
  refine ⟨hf, fun w Fz gs vs x y rel hr hy => ?_⟩
  refine (h w Fz gs vs x y rel hr hy).mono fun e w' ⟨v, h1, h2, h3⟩ => ?_
  obtain ⟨r, s⟩ := rel.more h2 0
  exact ⟨v, Fz, gs, packE o y.1.1, h1, r, rfl, h3, s⟩
def joinS (xs : List ByteArray) (sep : ByteArray) : ByteArray := ⟨(Lib.join (xs.map (·.data.toList)) sep.data.toList).toArray⟩
def itoaS (n : Int) : ByteArray := ⟨(Lib.itoa n).toArray⟩
def joinSem (e : TypeId) (x : (⟨[.one (.val (.slice e .str)), .one (.val .str)], []⟩ : Sh).T) : Option (⟨[.one (.val .str)], []⟩ : Sh).T :=
  if (show List ByteArray from x.1.1).length ≤ 140737488355328 ∧ (joinS x.1.1 x.1.2.1).size ≤ 140737488355328 then some ((joinS x.1.1 x.1.2.1, ()), ()) else none
theorem below_more {w w' : World} (h : Below w.heap.size w w') : More w w' := ⟨h.os, h.tape, h.output, h.size, h.block⟩
theorem grow_more (w : World) (k : Nat) (os : Array Obj) : More w (grow (w.drewN k) os) :=
  ⟨rfl, rfl, rfl, by simp [grow, World.drewN], fun b hb => by simp only [grow, World.drewN]; exact Array.getElem?_append_left hb⟩
theorem reps_str {w : World} {Fz : Nat → Prop} : ∀ {l : List ByteArray} {xs : List Value}, Reps (RepT C S w Fz .str) l xs → xs = l.map Value.string
  | [], xs, h => h
  | a :: l, xs, ⟨c, r, h1, h2, h3⟩ => by rw [h1, show c = [Value.string a] from h2, reps_str h3]; rfl
theorem join_spec {e : TypeId} (hf : ∃ fn, P.funcs[f]? = some fn ∧ fn.body.isSome = true ∧ (fn.name == "runtime.NumGoroutine") = false)
    (h1 : ∀ (a : Option Addr) (c : Nat) (sep : ByteArray) (w : World), Calls P f #[.slice a 0 c, .string sep] w fun e w' => e = .returned (.string ⟨#[]⟩) ∧ w' = w)
    (h2 : ∀ (bk o c : Nat) (xs : List ByteArray) (sep : ByteArray) (w : World) (hcells : ∀ (j : Nat) x, xs[j]? = some x → w.cell? ⟨bk, o + j, none⟩ = some (.string x)) (hbk : bk < w.heap.size) (hN : xs.length ≤ 140737488355328) (hcap : xs.length ≤ c) (hlen : (Lib.join (xs.map (·.data.toList)) sep.data.toList).length ≤ 140737488355328),
      Calls P f #[.slice (some ⟨bk, o, none⟩) xs.length c, .string sep] w fun e w' => e = .returned (.string ⟨(Lib.join (xs.map (·.data.toList)) sep.data.toList).toArray⟩) ∧ Below w.heap.size w w') :
    SpecOk P C S f ⟨⟨[.one (.val (.slice e .str)), .one (.val .str)], []⟩, [⟨[.one (.val .str)], []⟩], joinSem e⟩ := by
  refine SpecOk.plain hf fun w Fz gs vs x y rel hr hy => ?_
  obtain ⟨⟨l, sep, ⟨⟩⟩, ⟨⟩⟩ := x
  obtain ⟨v, vs, rfl, hv, v2, vs2, rfl, hv2, rfl⟩ := hr
  simp only [joinSem] at hy
  split at hy
  · rename_i hc
    obtain rfl := Option.some.inj hy
    obtain rfl : v2 = .string sep := by simpa [RepE, RepV, RepL, RepT, packE, packL] using hv2
    obtain ⟨a, cap, xs, q1, q2, q3, q4⟩ := hv
    obtain rfl : v = .slice a (List.length l) cap := by simpa using q1
    have hx := reps_str q3
    have hsz : (Lib.join ((show List ByteArray from l).map (·.data.toList)) sep.data.toList).length ≤ 140737488355328 := by
      have := hc.2
      simpa [joinS, ByteArray.size] using this
    rcases q4 with q4 | ⟨ad, rfl, q5, q6, q7⟩
    · have hl : l = [] := by rw [hx] at q4; simpa using q4
      subst hl
      refine (h1 a cap sep w).mono fun ev w' ⟨k1, k2⟩ => ?_
      subst k2
      exact ⟨_, k1, More.refl _, by simp [RepE, RepV, RepL, RepT, packE, packL, joinS, Lib.join]⟩
    · obtain ⟨bk, o, sp⟩ := ad
      simp only at q5
      subst q5
      refine (h2 bk o cap l sep w (fun j x hj => ?_) (rel.fz bk q6) hc.1 q2 hsz).mono fun ev w' ⟨k1, k2⟩ => ?_
      · have := q7 j (.string x) (by rw [hx]; simp [hj])
        rw [Addr.add_lit] at this
        exact this
      · exact ⟨_, k1, below_more k2, by simp [RepE, RepV, RepL, RepT, packE, packL, joinS]⟩
  · cases hy
def itoaSem (x : (⟨[.one (.val (.int .i64))], []⟩ : Sh).T) : Option (⟨[.one (.val .str)], []⟩ : Sh).T :=
  if -9223372036854775808 ≤ (show Int from x.1.1) ∧ (show Int from x.1.1) ≤ 9223372036854775807 then some ((itoaS x.1.1, ()), ()) else none
def fmtSem (x : (⟨[.one (.val (.int .i64)), .one (.val (.int .i64))], []⟩ : Sh).T) : Option (⟨[.one (.val .str)], []⟩ : Sh).T :=
  if (show Int from x.1.2.1) = 10 ∧ -9223372036854775808 ≤ (show Int from x.1.1) ∧ (show Int from x.1.1) ≤ 9223372036854775807 then some ((itoaS x.1.1, ()), ()) else none
theorem itoa_spec (hf : ∃ fn, P.funcs[f]? = some fn ∧ fn.body.isSome = true ∧ (fn.name == "runtime.NumGoroutine") = false) {g : Nat} (hm : (g, tabP (fun z => Value.int .u64 z) Lib.pow10Tab) ∈ C.tabs) (hg : P.globalNamed "internal/strconv.uint64pow10" = some g)
    (h : ∀ (n : Int) (h0 : -9223372036854775808 ≤ n) (h1 : n ≤ 9223372036854775807) (w : World) (htab : Lib.TabIs P w "internal/strconv.uint64pow10" .u64 Lib.pow10Tab), Calls P f #[.int .i64 n] w fun e w' => e = .returned (.string ⟨(Lib.itoa n).toArray⟩) ∧ ∃ k os, w' = grow (w.drewN k) os) :
    SpecOk P C S f ⟨⟨[.one (.val (.int .i64))], []⟩, [⟨[.one (.val .str)], []⟩], itoaSem⟩ := by
  refine SpecOk.plain hf fun w Fz gs vs x y rel hr hy => ?_
  obtain ⟨⟨n, ⟨⟩⟩, ⟨⟩⟩ := x
  obtain ⟨v, vs, rfl, hv, rfl⟩ := hr
  simp only [itoaSem] at hy
  split at hy
  · rename_i hc
    obtain rfl := Option.some.inj hy
    obtain rfl : v = .int .i64 n := by simpa [RepE, RepV, RepL, RepT, packE, packL] using hv
    refine (h n hc.1 hc.2 w (tab_is rel hm hg)).mono fun ev w' ⟨k1, k, os, k2⟩ => ?_
    subst k2
    exact ⟨_, k1, grow_more w k os, by simp [RepE, RepV, RepL, RepT, packE, packL, itoaS]⟩
  · cases hy
theorem fmt_spec (hf : ∃ fn, P.funcs[f]? = some fn ∧ fn.body.isSome = true ∧ (fn.name == "runtime.NumGoroutine") = false) {g : Nat} (hm : (g, tabP (fun z => Value.int .u64 z) Lib.pow10Tab) ∈ C.tabs) (hg : P.globalNamed "internal/strconv.uint64pow10" = some g)
    (h : ∀ (n : Int) (h0 : -9223372036854775808 ≤ n) (h1 : n ≤ 9223372036854775807) (w : World) (htab : Lib.TabIs P w "internal/strconv.uint64pow10" .u64 Lib.pow10Tab), Calls P f #[.int .i64 n, .int .i64 10] w fun e w' => e = .returned (.string ⟨(Lib.itoa n).toArray⟩) ∧ ∃ k os, w' = grow (w.drewN k) os) :
    SpecOk P C S f ⟨⟨[.one (.val (.int .i64)), .one (.val (.int .i64))], []⟩, [⟨[.one (.val .str)], []⟩], fmtSem⟩ := by
  refine SpecOk.plain hf fun w Fz gs vs x y rel hr hy => ?_
  obtain ⟨⟨n, b, ⟨⟩⟩, ⟨⟩⟩ := x
  obtain ⟨v, vs, rfl, hv, v2, vs2, rfl, hv2, rfl⟩ := hr
  simp only [fmtSem] at hy
  split at hy
  · rename_i hc
    obtain rfl := Option.some.inj hy
    obtain rfl : v = .int .i64 n := by simpa [RepE, RepV, RepL, RepT, packE, packL] using hv
    obtain rfl : v2 = .int .i64 10 := by have := hc.1; subst this; simpa [RepE, RepV, RepL, RepT, packE, packL] using hv2
    refine (h n hc.2.1 hc.2.2 w (tab_is rel hm hg)).mono fun ev w' ⟨k1, k, os, k2⟩ => ?_
    subst k2
    exact ⟨_, k1, grow_more w k os, by simp [RepE, RepV, RepL, RepT, packE, packL, itoaS]⟩
  · cases hy
end
end Go.Proofs.YtnajjhjbkanigaaDoor.Cm
