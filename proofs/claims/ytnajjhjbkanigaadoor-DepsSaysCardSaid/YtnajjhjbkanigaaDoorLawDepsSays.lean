/- By a program of this session (cmrow.py): the row of a law, out of its one pure statement and the printed walk. -/
import Derived.Test.YtnajjhjbkanigaaDoorRows
import Derived.Test.YtnajjhjbkanigaaDoorCards
import Derived.Test.YtnajjhjbkanigaaDoorTie
import Derived.Test.YtnajjhjbkanigaaDoorCDepsSays1
import Derived.Test.YtnajjhjbkanigaaDoorPureDepsSays
import Derived.Test.YtnajjhjbkanigaaDoorCmRd
import Derived.Test.YtnajjhjbkanigaaDoorCDepsSaysR
import Derived.WalkKit
import Derived.ProofKit
import Derived.OpenShut
import Derived.ShutString
import Derived.Lib.LaidTab
import Derived.ChangeOld
import Derived.Below
import Derived.Carry
import Derived.SizedLaws
import Derived.LaidLaws
import Derived.LaidHandle
import Derived.LaidMore
import Derived.LaidSub
import Derived.MakeChecks
import Derived.ChangeSame
import Derived.JoinedOf
import Derived.Stop.Joined
namespace Go.Proofs.YtnajjhjbkanigaaDoor.depsSays
open Go.ChangeShapes Go.WideShapes Go.ChangeAt Go.RowKit Go.Proofs.YtnajjhjbkanigaaDoor.Cm
set_option linter.unusedVariables false
theorem own : ownKnob Tryd.prog.godebug = none := by kernel_rfl
theorem laidOut : laidOutB Tryd.prog = true := by kernel_rfl
theorem star : "*" ++ "errors.errorString" = "*errors.errorString" := by decide
theorem rowE (u : TypeId) (h : Tryd.prog.typeName? 3 u = some "*errors.errorString") : u = 181 :=
  typeName_ptr_named (nm := "errors.errorString") (by rw [star]; kernel_rfl) (by kernel_rfl) (by decide) u (by rw [star]; exact h)
theorem door_met (os : Os) (args : Array Value) : laidMetH Tryd.prog Rows.depsSaysRow.laid ((World.doorLaid Tryd.prog 423 os).forCall (fun _ _ => 0) ⟨#[], args, []⟩).memory :=
  laidMetH_of_parts3 (fuel := 8) (laidMet_of_run' 8 (by kernel_rfl) (by kernel_rfl)) (by kernel_rfl) (by kernel_rfl)
set_option maxRecDepth 100000 in
theorem lifted (os : Os) (started : os.Started) (H : Type) (enc : TypeId × Value → H) :
    ReturnsInHanded {} Tryd.checked os 5 .any (fun w args => (Rows.depsSaysSpec.pre enc Tryd.prog Tryd.f5 [] false w args ∧ laidMetH Tryd.prog Rows.depsSaysRow.laid w) ∧ sizedMet enc Tryd.prog Tryd.f5 (OpenSpec.ofChange Rows.depsSaysSpec) false w args)
      (Rows.depsSaysSpec.post enc Tryd.prog Tryd.f5 false true false false) := by
  refine returnsInHanded_of_change_and (C := Tryd.checked) (X := fun w _ => laidMetH Tryd.prog Rows.depsSaysRow.laid w) (fun _ _ _ hh h => h.of_heap hh) own started (by kernel_rfl) Tryd.func5
    (ChangeSpec.witness_shaped (enc := enc) (C := Tryd.checked) (os := os) (X := fun w _ => laidMetH Tryd.prog Rows.depsSaysRow.laid w) false (World.doorLaid Tryd.prog 423 os) #[.slice none 0 0, .string ByteArray.empty] 8 rfl (World.shaped_of_RefB (by kernel_rfl) (by kernel_rfl)) (by kernel_rfl) (by kernel_rfl) (by kernel_rfl) (door_met os _)) ?_
  intro W base args ds gs before hval0 hW hcnd hsz0 hL _
  have hsz : (DataW.weightsEach Tryd.prog (Tryd.f5.params.toList ++ Rows.depsSaysSpec.plain.varTypes Tryd.prog) (ds ++ gs)).all (· ≤ reachBytes) = true := hsz0
  have hval : ∀ (j : Nat) t v, Tryd.f5.params[j]? = some t → args[j]? = some v → Value.okWide Tryd.prog W .any base t v := hval0
  have hW' := hW
  obtain ⟨p, q, hA0, hV, rfl, hfz, hnd⟩ := hW
  have hA : DataW.TrodAll enc Tryd.prog W 0 (fun _ => true) true Tryd.f5.params.toList args.toList ds p := hA0
  rw [Tryd.params5] at hA hval hsz
  obtain ⟨v0, vs0, d0, ds0, p0, q0, hargs, rfl, rfl, h0, r0⟩ := trodAll_cons hA
  obtain ⟨v1, vs1, d1, ds1, p1, q1, rfl, rfl, rfl, h1, r1⟩ := trodAll_cons r0
  obtain ⟨rfl, rfl, rfl⟩ := trodAll_nil r1
  obtain rfl : args = #[v0, v1] := by cases args; simp_all
  obtain ⟨rfl, rfl⟩ := trodVars_none hV
  rw [MakeChecks.laidMetH_plain _ _ _ (by kernel_rfl)] at hL
  obtain ⟨S, hS, hinj⟩ := sent_of_laid (nm := "*errors.errorString") Tryd.underlying50 rowE Tryd.underlying181 Tryd.underlying196 rfl rfl Tryd.underlying9 (by kernel_rfl) (by kernel_rfl) (hL.filter (fun x => isSent "*errors.errorString" x.2)) (sl := CC.sents) (by kernel_rfl) (by kernel_rfl) (by kernel_rfl) (by decide)
  have k0 := h0
  have lt0 : ∀ x ∈ p0, x.block < W.heap.size := by obtain ⟨m, hm⟩ := k0; exact DataW.trod_lt m _ _ _ hm
  obtain ⟨a0, hr0, g0⟩ := arg_one (C := CC) (S := S) (ty := (Ty.slice 25 (Ty.pair Ty.str (Ty.pair (Ty.slice 36 (Ty.pair (Ty.int .i64) (Ty.pair Ty.str (Ty.pair (Ty.int .i64) (Ty.slice 87 (Ty.pair Ty.str Ty.bool)))))) (Ty.pair (Ty.slice 36 (Ty.pair (Ty.int .i64) (Ty.pair Ty.str (Ty.pair (Ty.int .i64) (Ty.slice 87 (Ty.pair Ty.str Ty.bool)))))) (Ty.pair (Ty.slice 36 (Ty.pair (Ty.int .i64) (Ty.pair Ty.str (Ty.pair (Ty.int .i64) (Ty.slice 87 (Ty.pair Ty.str Ty.bool)))))) (Ty.slice 43 (Ty.pair (Ty.int .i64) (Ty.pair (Ty.slice 9 Ty.str) (Ty.pair (Ty.pair (Ty.int .i64) (Ty.pair (Ty.int .i64) (Ty.pair (Ty.int .i64) (Ty.pair Ty.str (Ty.exs 41))))) (Ty.pair Ty.str (Ty.pair (Ty.exs 41) Ty.str)))))))))))) (by kernel_rfl) (by kernel_rfl) (hval 0 46 v0 rfl rfl) h0 (weightsEach_get hsz 0 46 d0 rfl rfl)
  have k1 := h1
  have lt1 : ∀ x ∈ p1, x.block < W.heap.size := by obtain ⟨m, hm⟩ := k1; exact DataW.trod_lt m _ _ _ hm
  obtain ⟨a1, hr1, g1⟩ := arg_one (C := CC) (S := S) (ty := Ty.str) (by kernel_rfl) (by kernel_rfl) (hval 1 9 v1 rfl rfl) h1 (weightsEach_get hsz 1 9 d1 rfl rfl)
  clear hA0 hval0 hsz0 hsz
  have rel : Rel CC S W (hz W) [] [] := door_rel hS (by intro p hp; cases hp)
  have ok : CfgOk P CC S := cfg_ok (by kernel_rfl) (by kernel_rfl) (by kernel_rfl) (by kernel_rfl) (fun c d g h h1 h2 he => hinj (c, g) h1 (d, h) h2 he)
  obtain ⟨n, hP⟩ := Pure.DepsSays a0 a1 g0 g1
  have hrs : RepEs CC S W (hz W) [] (packEs law24_DepsSays_ins.es (show law24_DepsSays_ins.T from ⟨⟨a0, a1, ⟨⟩⟩, ⟨⟩⟩).1) [v0, v1] := ⟨_, _, rfl, hr0, _, _, rfl, hr1, rfl⟩
  refine ((law24_DepsSays_ok ok n).2 W (hz W) [] [v0, v1] (show law24_DepsSays_ins.T from ⟨⟨a0, a1, ⟨⟩⟩, ⟨⟩⟩) ((true, ()), ()) rel hrs hP).mono fun e W' hE => ?_
  obtain ⟨v, Fz', gs', o, he, rel', ho, hv, hst⟩ := hE
  subst he
  obtain rfl : o = .one (.val .bool true) := by simpa [outP, packEs, packE, packL] using ho.symm
  obtain rfl : v = .bool true := by simpa [RepE, RepV, RepL, RepT] using hv
  have bel := door_below hst
  exact ⟨_, rfl, _, _, _, [], _, [], hW', trodAll_mk1 (shut_bool Tryd.underlying4 _), (trodAll_cons_mk (Below.trod laidOut (by kernel_rfl) (of_decide_eq_true (by kernel_rfl)) k0 bel lt0) (trodAll_cons_mk (Below.trod laidOut (by kernel_rfl) (of_decide_eq_true (by kernel_rfl)) k1 bel lt1) trodAll_mk0)), rfl, bel.frame _, fun h => by cases h⟩
theorem over : Rows.depsSaysRow.holds Tryd.pinned (OpenSpec.ofChange Rows.depsSaysSpec) :=
  OpenClaim.holds_of_wide 5 Tryd.f5 rfl rfl rfl rfl rfl rfl rfl ⟨rfl, rfl, rfl, rfl, rfl⟩ rfl rfl rfl rfl rfl (by kernel_rfl) Tryd.func5 (by kernel_rfl)
    (of_decide_eq_true (by kernel_rfl)) (by unfold Func.isWrapper; first | (rw [if_pos (by decide +kernel)]; kernel_rfl) | (rw [if_neg (by decide +kernel)]; exact ⟨rfl, rfl⟩))
    (fun os started H enc _ => lifted os started H enc)
theorem said : Rows.DepsSaysSaid := over
theorem plain (f : FuncId) (fn : Func) (hf : Tryd.pinned.checked.prog.funcNamed "pendulum/pendulumlaw24.DepsSays" = some f) (hfn : Tryd.pinned.checked.prog.funcs[f]? = some fn) :
    true = Tryd.pinned.checked.prog.looks [] ∧ ∀ (j : Nat) t, fn.params[j]? = some t → Tryd.pinned.checked.prog.wantsStandIn t = false := by
  obtain rfl : f = 5 := Option.some.inj ((show Tryd.prog.funcNamed "pendulum/pendulumlaw24.DepsSays" = some 5 by kernel_rfl).symm.trans hf) |>.symm
  obtain rfl : fn = Tryd.f5 := (Option.some.inj (Tryd.func5.symm.trans hfn)).symm
  refine ⟨by kernel_rfl, fun j t ht => ?_⟩
  rw [Tryd.params5] at ht
  have hm := Array.mem_of_getElem? ht
  have h0 : ∀ t ∈ [46, 9], Tryd.prog.wantsStandIn t = false := by
    intro t ht
    simp only [List.mem_cons, List.not_mem_nil, or_false] at ht
    rcases ht with rfl | rfl <;> kernel_rfl
  exact h0 t (by simpa using hm)
theorem card : Rows.DepsSaysCardSaid :=
  Claim7.holds_tied_plain_at .later [] _ _ _ _ said (fun _ h => by cases h) (by kernel_rfl) (fun _ h => by cases h) depsSays_row_tie rfl ⟨rfl, rfl⟩ (by kernel_rfl) rfl plain (by kernel_rfl)
#print axioms card
end Go.Proofs.YtnajjhjbkanigaaDoor.depsSays
namespace Go.Proofs.YtnajjhjbkanigaaDoor
/-- The row, under a short name, for the claim. -/
theorem depsSays_holds : Rows.DepsSaysCardSaid := depsSays.card
end Go.Proofs.YtnajjhjbkanigaaDoor
