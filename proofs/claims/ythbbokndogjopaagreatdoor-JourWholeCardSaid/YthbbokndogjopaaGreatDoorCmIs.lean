/- errors.Is over sentinels, for the interpreter. By this session. -/
import Derived.Test.YthbbokndogjopaaGreatDoorIs
namespace Go.Proofs.YthbbokndogjopaaGreatDoor.Cm
open Go Go.RowKit
set_option linter.unusedVariables false
def isSem (x : (⟨[.one (.val .err), .one (.val .err)], []⟩ : Sh).T) : Option (OutsT [⟨[.one (.val .bool)], []⟩]) :=
  match (show ErrV from x.1.1), (show ErrV from x.1.2.1) with
  | .nil, .sent _ => some ((false, ()), ())
  | .sent c, .sent d => some ((c == d, ()), ())
  | _, _ => none
section
variable {C : Cfg} {S : Nat → Addr}
theorem is_spec (ok : CfgOk Tryz.prog C S) (hte : C.te = 197) : SpecOk Tryz.prog C S 57 ⟨⟨[.one (.val .err), .one (.val .err)], []⟩, [⟨[.one (.val .bool)], []⟩], isSem⟩ := by
  refine SpecOk.plain ⟨Tryz.f57, by kernel_rfl, by kernel_rfl, by kernel_rfl⟩ fun w Fz gs vs x y rel hr hy => ?_
  obtain ⟨⟨a, b, ⟨⟩⟩, ⟨⟩⟩ := x
  obtain ⟨v, vs, rfl, hv0, v2, vs2, rfl, hv20, rfl⟩ := hr
  have hv : RepErr C S w Fz a v := by simpa [RepE, RepV, RepL, RepT, packE, packL] using hv0
  have hv2 : RepErr C S w Fz b v2 := by simpa [RepE, RepV, RepL, RepT, packE, packL] using hv20
  clear hv0 hv20
  have mre : More w w := ⟨rfl, rfl, rfl, Nat.le_refl _, fun _ _ => rfl⟩
  cases b with
  | nil => cases a <;> cases hy
  | at_ q f => cases a <;> cases hy
  | sent d =>
    obtain ⟨⟨g2, m2⟩, rfl⟩ := hv2
    rw [hte]
    cases a with
    | nil =>
      obtain rfl := Option.some.inj hy
      rw [show v = .nilIface from hv]
      exact (Is.is_nil (S d) w).mono fun e w' ⟨h1, h2⟩ => by subst h2; exact ⟨_, h1, mre, by simp [RepE, RepV, RepL, RepT, packE, packL]⟩
    | at_ q f => cases hy
    | sent c =>
      obtain rfl := Option.some.inj hy
      obtain ⟨⟨g1, m1⟩, rfl⟩ := hv
      rw [hte]
      by_cases hcd : S c = S d
      · have := ok.inj c d g1 g2 m1 m2 hcd
        subst this
        refine (Is.is_same (S c) w).mono fun e w' ⟨h1, h2⟩ => ?_
        subst h2
        refine ⟨_, h1, mre, ?_⟩
        simp [RepE, RepV, RepL, RepT, packE, packL]
      · obtain ⟨_, _, _, ca, ta, k1⟩ := rel.glob c g1 m1
        obtain ⟨_, _, _, cb, tb, k2⟩ := rel.glob d g2 m2
        refine (Is.is_other (S c) (S d) ca cb ta tb w hcd k1 k2).mono fun e w' ⟨h1, h2⟩ => ?_
        subst h2
        refine ⟨_, h1, mre, ?_⟩
        have : (c == d) = false := by simp; rintro rfl; exact hcd rfl
        simp [RepE, RepV, RepL, RepT, packE, packL, this]
end
end Go.Proofs.YthbbokndogjopaaGreatDoor.Cm
