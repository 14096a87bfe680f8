/- Code as plain functions: slices.AppendSeq of what slices.Values gives, brought over. By this session. -/
import Derived.Test.YtkcgcaefhoepoaaDoorCmFs
import Derived.Test.YtkcgcaefhoepoaaDoorCmFo
import Derived.Maps.AppendAt
import Derived.RangeFuncBox
namespace Go.Proofs.YtkcgcaefhoepoaaDoor.Cm
open Go Go.RowKit Go.Sort
set_option linter.unusedVariables false
/-- The slice value holds these strings, below n₀; or none. -/
def StrsAt (n₀ : Nat) (W : World) (sv : Value) (zs : List ByteArray) : Prop :=
  (∃ a cap, sv = .slice a 0 cap ∧ zs = []) ∨ ∃ b off cap, sv = .slice (some ⟨b, off, none⟩) zs.length cap ∧ b < n₀ ∧ ∀ j, j < zs.length → W.cell? ⟨b, off + j, none⟩ = some (.string (zs[j]?.getD ByteArray.empty))
section
variable {P : Program} {C : Cfg} {S : Nat → Addr} {f g : FuncId}
def apSem (e st : TypeId) (g : FuncId) (x : (⟨[.one (.emp true), .one (.fn g [0])], [.obj st [.val (.slice e .str)]]⟩ : Sh).T) : Option (⟨[.one (.arr 1)], [.obj st [.val (.slice e .str)], .arr e .str]⟩ : Sh).T :=
  if (show List ByteArray from x.2.1.1).length * 16 ≤ 140737488355328 then some (((), ()), (x.2.1, x.2.1.1, ())) else none
theorem apseq_spec {e st : TypeId} (hf : ∃ fn, P.funcs[f]? = some fn ∧ fn.body.isSome = true ∧ (fn.name == "runtime.NumGoroutine") = false)
    (h : ∀ (Bs : Nat) (sv : Value) (zs : List ByteArray) (hlen : zs.length ≤ maxLen) (hbytes : zs.length * 16 ≤ 140737488355328) (w : World) (hBs : Bs < w.heap.size) (hc0 : w.cell? ⟨Bs, 0, none⟩ = some sv) (hL : StrsAt w.heap.size w sv zs),
      Calls P f #[.slice none 0 0, .func (.func g) #[] #[.pointer (some ⟨Bs, 0, none⟩)]] w fun ev W' => ∃ v, ev = .returned v ∧ W'.ownsRow w.heap.size e 1 v zs.length (zs.map Value.string) ∧ Below w.heap.size w W') :
    SpecOk P C S f ⟨⟨[.one (.emp true), .one (.fn g [0])], [.obj st [.val (.slice e .str)]]⟩, [⟨[.one (.arr 1)], [.obj st [.val (.slice e .str)], .arr e .str]⟩], apSem e st g⟩ := by
  refine ⟨hf, fun w Fz gs vs x y rel hr hy => ?_⟩
  obtain ⟨⟨⟨⟩, ⟨⟩, ⟨⟩⟩, ⟨⟨l, ⟨⟩⟩, ⟨⟩⟩⟩ := x
  simp only [apSem] at hy
  split at hy
  · rename_i hlen
    obtain rfl := Option.some.inj hy
    obtain ⟨l, rfl⟩ : ∃ m : List ByteArray, m = l := ⟨l, rfl⟩
    have hlen : l.length * 16 ≤ 140737488355328 := hlen
    obtain ⟨v0, vs, rfl, hv0, v1, vs1, rfl, hv1, rfl⟩ := hr
    obtain ⟨a0, rfl, ha0⟩ := hv0
    obtain rfl := ha0 rfl
    obtain ⟨cv, rfl, hcl, hcap⟩ := hv1
    obtain ⟨g0, b, hg0, hgv, hcv⟩ := hcap 0 0 rfl
    match cv, hcl, hcv with
    | [c0], _, hcv =>
      obtain rfl : c0 = .pointer (some ⟨b, 0, none⟩) := by simpa using hcv
      obtain ⟨b', cs, q1, q2, q3, q4⟩ := rel.slot 0 (.obj st [.val (.slice e .str) l]) g0 rfl hg0
      rw [hgv] at q1
      obtain rfl : b = b' := by simpa using q1
      obtain ⟨sv, cs', rfl, hsv, rfl⟩ := q4
      obtain ⟨a, cap, xs, p1, p2, p3, p4⟩ := hsv
      obtain rfl : sv = .slice a l.length cap := by simpa using p1
      obtain rfl := reps_strs p3
      have hbl : b < w.heap.size := (Array.getElem?_eq_some_iff.1 q3).1
      have hc0 : w.cell? ⟨b, 0, none⟩ = some (.slice a l.length cap) := by simp [World.cell?, q3]
      have hL : StrsAt w.heap.size w (.slice a l.length cap) l := by
        rcases p4 with p4 | ⟨ad, rfl, p5, p6, p7⟩
        · have : l = [] := by simpa using p4
          subst this
          exact .inl ⟨a, cap, rfl, rfl⟩
        · obtain ⟨bk, off, sp⟩ := ad
          simp only at p5
          subst p5
          refine .inr ⟨bk, off, cap, rfl, rel.fz bk p6, fun j hj => ?_⟩
          have := p7 j (.string (l[j]?.getD ByteArray.empty)) (by simp [hj])
          rw [Addr.add_lit] at this
          exact this
      have hmax : l.length ≤ maxLen := by simp only [maxLen]; omega
      refine (h b _ l hmax hlen w hbl hc0 hL).mono fun ev w' ⟨v, j1, j2, j3⟩ => ?_
      have hgl : gs.length = 1 := rel.len
      have fin : ∀ g' : Gh, gs ++ [g'] = [g0, g'] := fun g' => by
        match gs, hgl, hg0 with
        | [x], _, hg0 => simp at hg0; rw [hg0]; rfl
      rcases j2.2 with ⟨k1, k2⟩ | ⟨gb, cap', cur, k1, k2, k3, k4, k5, k6, k7⟩
      · have hl0 : l = [] := List.eq_nil_of_length_eq_zero (by omega)
        subst hl0
        obtain ⟨r1, s1⟩ := rel.push (below_more j3) 1 (.arr e .str []) ⟨.slice none 0 0, none⟩ (fun b h => by cases h) ⟨none, 0, [], rfl, Nat.le_refl _, by simp [maxLen], rfl, .inl ⟨rfl, rfl, rfl⟩⟩
        refine ⟨v, Fz, _, .one (.arr 1), j1, r1, rfl, ⟨⟨.slice none 0 0, none⟩, none, 0, 0, ?_, rfl, k1⟩, s1⟩
        rw [fin]; rfl
      · subst k1
        obtain ⟨r1, s1⟩ := rel.push (below_more j3) 1 (.arr e .str l) ⟨.slice (some ⟨gb, 0, none⟩) l.length cap', some gb⟩ (fun q hq => by obtain rfl := Option.some.inj hq; exact ⟨k2, (Array.getElem?_eq_some_iff.1 k3).1⟩)
          ⟨some ⟨gb, 0, none⟩, cap', l.map Value.string, rfl, k4, k5, strs_reps _, .inr ⟨gb, 0, cur, rfl, rfl, k3, by simp [Ty.size]; omega, by simpa [Ty.size] using k7⟩⟩
        refine ⟨_, Fz, _, .one (.arr 1), j1, r1, rfl, ⟨⟨.slice (some ⟨gb, 0, none⟩) l.length cap', some gb⟩, some ⟨gb, 0, none⟩, l.length, cap', ?_, rfl, rfl⟩, s1⟩
        rw [fin]; rfl
  · cases hy
end
end Go.Proofs.YtkcgcaefhoepoaaDoor.Cm
