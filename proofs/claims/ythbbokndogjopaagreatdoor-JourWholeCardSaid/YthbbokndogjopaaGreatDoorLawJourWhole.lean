/- By a program of this session (cmrow.py): the row of a law, out of its one pure statement and the printed walk. -/
import Derived.Test.YthbbokndogjopaaGreatDoorRows
import Derived.Test.YthbbokndogjopaaGreatDoorCards
import Derived.Test.YthbbokndogjopaaGreatDoorTie
import Derived.Test.YthbbokndogjopaaGreatDoorCJourWhole1
import Derived.Test.YthbbokndogjopaaGreatDoorPureJourWhole
import Derived.Test.YthbbokndogjopaaGreatDoorCmRd
import Derived.Test.YthbbokndogjopaaGreatDoorCJourWholeR
import Derived.WalkKit
import Derived.ProofKit
import Derived.OpenShut
import Derived.ShutString
import Derived.Lib.LaidTab
import Derived.ChangeOld
import Derived.Below
import Derived.Carry
import Derived.SizedLaws
import Derived.LaidLaws
import Derived.LaidHandle
import Derived.LaidMore
import Derived.LaidSub
import Derived.MakeChecks
import Derived.ChangeSame
import Derived.JoinedOf
import Derived.Stop.Joined
namespace Go.Proofs.YthbbokndogjopaaGreatDoor.jourWhole
open Go.ChangeShapes Go.WideShapes Go.ChangeAt Go.RowKit Go.Proofs.YthbbokndogjopaaGreatDoor.Cm
set_option linter.unusedVariables false
theorem own : ownKnob Tryz.prog.godebug = none := by kernel_rfl
theorem laidOut : laidOutB Tryz.prog = true := by kernel_rfl
theorem star : "*" ++ "errors.errorString" = "*errors.errorString" := by decide
theorem rowE (u : TypeId) (h : Tryz.prog.typeName? 3 u = some "*errors.errorString") : u = 197 :=
  typeName_ptr_named (nm := "errors.errorString") (by rw [star]; kernel_rfl) (by kernel_rfl) (by decide) u (by rw [star]; exact h)
theorem door_met (os : Os) (args : Array Value) : laidMetH Tryz.prog Rows.jourWholeRow.laid ((World.doorLaid Tryz.prog 423 os).forCall (fun _ _ => 0) ⟨#[], args, []⟩).memory :=
  laidMetH_of_parts3 (fuel := 8) (laidMet_of_run' 8 (by kernel_rfl) (by kernel_rfl)) (by kernel_rfl) (by kernel_rfl)
set_option maxRecDepth 100000 in
theorem lifted (os : Os) (started : os.Started) (H : Type) (enc : TypeId × Value → H) :
    ReturnsInHanded {} Tryz.checked os 4 .any (fun w args => (Rows.jourWholeSpec.pre enc Tryz.prog Tryz.f4 [] false w args ∧ laidMetH Tryz.prog Rows.jourWholeRow.laid w) ∧ sizedMet enc Tryz.prog Tryz.f4 (OpenSpec.ofChange Rows.jourWholeSpec) false w args)
      (Rows.jourWholeSpec.post enc Tryz.prog Tryz.f4 false true false false) := by
  refine returnsInHanded_of_change_and (C := Tryz.checked) (X := fun w _ => laidMetH Tryz.prog Rows.jourWholeRow.laid w) (fun _ _ _ hh h => h.of_heap hh) own started (by kernel_rfl) Tryz.func4
    (ChangeSpec.witness_shaped (enc := enc) (C := Tryz.checked) (os := os) (X := fun w _ => laidMetH Tryz.prog Rows.jourWholeRow.laid w) false (World.doorLaid Tryz.prog 423 os) #[.int .i64 0, .int .i64 0, .slice none 0 0, .int .i64 0] 8 rfl (World.shaped_of_RefB (by kernel_rfl) (by kernel_rfl)) (by kernel_rfl) (by kernel_rfl) (by kernel_rfl) (door_met os _)) ?_
  intro W base args ds gs before hval0 hW hcnd hsz0 hL _
  have hsz : (DataW.weightsEach Tryz.prog (Tryz.f4.params.toList ++ Rows.jourWholeSpec.plain.varTypes Tryz.prog) (ds ++ gs)).all (· ≤ reachBytes) = true := hsz0
  have hval : ∀ (j : Nat) t v, Tryz.f4.params[j]? = some t → args[j]? = some v → Value.okWide Tryz.prog W .any base t v := hval0
  have hW' := hW
  obtain ⟨p, q, hA0, hV, rfl, hfz, hnd⟩ := hW
  have hA : DataW.TrodAll enc Tryz.prog W 0 (fun _ => true) true Tryz.f4.params.toList args.toList ds p := hA0
  rw [Tryz.params4] at hA hval hsz
  obtain ⟨v0, vs0, d0, ds0, p0, q0, hargs, rfl, rfl, h0, r0⟩ := trodAll_cons hA
  obtain ⟨v1, vs1, d1, ds1, p1, q1, rfl, rfl, rfl, h1, r1⟩ := trodAll_cons r0
  obtain ⟨v2, vs2, d2, ds2, p2, q2, rfl, rfl, rfl, h2, r2⟩ := trodAll_cons r1
  obtain ⟨v3, vs3, d3, ds3, p3, q3, rfl, rfl, rfl, h3, r3⟩ := trodAll_cons r2
  obtain ⟨rfl, rfl, rfl⟩ := trodAll_nil r3
  obtain rfl : args = #[v0, v1, v2, v3] := by cases args; simp_all
  obtain ⟨rfl, rfl⟩ := trodVars_none hV
  rw [MakeChecks.laidMetH_plain _ _ _ (by kernel_rfl)] at hL
  obtain ⟨S, hS, hinj⟩ := sent_of_laid (nm := "*errors.errorString") Tryz.underlying34 rowE Tryz.underlying197 Tryz.underlying221 rfl rfl Tryz.underlying9 (by kernel_rfl) (by kernel_rfl) (hL.filter (fun x => isSent "*errors.errorString" x.2)) (sl := CC.sents) (by kernel_rfl) (by kernel_rfl) (by kernel_rfl) (by decide)
  have k0 := h0
  have lt0 : ∀ x ∈ p0, x.block < W.heap.size := by obtain ⟨m, hm⟩ := k0; exact DataW.trod_lt m _ _ _ hm
  obtain ⟨a0, hr0, g0⟩ := arg_one (C := CC) (S := S) (ty := (Ty.int .i64)) (by kernel_rfl) (by kernel_rfl) (hval 0 3 v0 rfl rfl) h0 (weightsEach_get hsz 0 3 d0 rfl rfl)
  have k1 := h1
  have lt1 : ∀ x ∈ p1, x.block < W.heap.size := by obtain ⟨m, hm⟩ := k1; exact DataW.trod_lt m _ _ _ hm
  obtain ⟨a1, hr1, g1⟩ := arg_one (C := CC) (S := S) (ty := (Ty.int .i64)) (by kernel_rfl) (by kernel_rfl) (hval 1 3 v1 rfl rfl) h1 (weightsEach_get hsz 1 3 d1 rfl rfl)
  have k2 := h2
  have lt2 : ∀ x ∈ p2, x.block < W.heap.size := by obtain ⟨m, hm⟩ := k2; exact DataW.trod_lt m _ _ _ hm
  obtain ⟨a2, hr2, g2⟩ := arg_one (C := CC) (S := S) (ty := (Ty.slice 3 (Ty.int .i64))) (by kernel_rfl) (by kernel_rfl) (hval 2 23 v2 rfl rfl) h2 (weightsEach_get hsz 2 23 d2 rfl rfl)
  have k3 := h3
  have lt3 : ∀ x ∈ p3, x.block < W.heap.size := by obtain ⟨m, hm⟩ := k3; exact DataW.trod_lt m _ _ _ hm
  obtain ⟨a3, hr3, g3⟩ := arg_one (C := CC) (S := S) (ty := (Ty.int .i64)) (by kernel_rfl) (by kernel_rfl) (hval 3 3 v3 rfl rfl) h3 (weightsEach_get hsz 3 3 d3 rfl rfl)
  clear hA0 hval0 hsz0 hsz
  have hT : Lib.TabIs Tryz.prog W "internal/strconv.uint64pow10" .u64 Lib.pow10Tab := by
    have h1 := hL.filter (fun x => x.1 == "internal/strconv.uint64pow10")
    rw [show Rows.jourWholeRow.laid.filter (fun x => x.1 == "internal/strconv.uint64pow10") = [("internal/strconv.uint64pow10", Lib.tabData .u64 Lib.pow10Tab)] by kernel_rfl] at h1
    exact Lib.tabIs_of_head (g := 21) (t := 192) (e := 141) (n := 20) (by kernel_rfl) (by kernel_rfl) Tryz.underlying192 Tryz.underlying141 (by kernel_rfl) (by kernel_rfl) h1
  have rel : Rel CC S W (hz W) [] [] := door_rel hS (by intro p hp; rw [show CC.tabs = [(21, tabP (fun z => Value.int .u64 z) Lib.pow10Tab)] from rfl, List.mem_singleton] at hp; subst hp; exact tab_door (by kernel_rfl) hT)
  have ok : CfgOk P CC S := cfg_ok (by kernel_rfl) (by kernel_rfl) (by kernel_rfl) (by kernel_rfl) (fun c d g h h1 h2 he => hinj (c, g) h1 (d, h) h2 he)
  obtain ⟨n, hP⟩ := Pure.JourWhole a0 a1 a2 a3 g0 g1 g2 g3
  have hrs : RepEs CC S W (hz W) [] (packEs law4_JourWhole_ins.es (show law4_JourWhole_ins.T from ⟨⟨a0, a1, a2, a3, ⟨⟩⟩, ⟨⟩⟩).1) [v0, v1, v2, v3] := ⟨_, _, rfl, hr0, _, _, rfl, hr1, _, _, rfl, hr2, _, _, rfl, hr3, rfl⟩
  refine ((law4_JourWhole_ok ok n).2 W (hz W) [] [v0, v1, v2, v3] (show law4_JourWhole_ins.T from ⟨⟨a0, a1, a2, a3, ⟨⟩⟩, ⟨⟩⟩) ((true, ()), ()) rel hrs hP).mono fun e W' hE => ?_
  obtain ⟨v, Fz', gs', o, he, rel', ho, hv, hst⟩ := hE
  subst he
  obtain rfl : o = .one (.val .bool true) := by simpa [outP, packEs, packE, packL] using ho.symm
  obtain rfl : v = .bool true := by simpa [RepE, RepV, RepL, RepT] using hv
  have bel := door_below hst
  exact ⟨_, rfl, _, _, _, [], _, [], hW', trodAll_mk1 (shut_bool Tryz.underlying4 _), (trodAll_cons_mk (Below.trod laidOut (by kernel_rfl) (of_decide_eq_true (by kernel_rfl)) k0 bel lt0) (trodAll_cons_mk (Below.trod laidOut (by kernel_rfl) (of_decide_eq_true (by kernel_rfl)) k1 bel lt1) (trodAll_cons_mk (Below.trod laidOut (by kernel_rfl) (of_decide_eq_true (by kernel_rfl)) k2 bel lt2) (trodAll_cons_mk (Below.trod laidOut (by kernel_rfl) (of_decide_eq_true (by kernel_rfl)) k3 bel lt3) trodAll_mk0)))), rfl, bel.frame _, fun h => by cases h⟩
theorem over : Rows.jourWholeRow.holds Tryz.pinned (OpenSpec.ofChange Rows.jourWholeSpec) :=
  OpenClaim.holds_of_wide 4 Tryz.f4 rfl rfl rfl rfl rfl rfl rfl ⟨rfl, rfl, rfl, rfl, rfl⟩ rfl rfl rfl rfl rfl (by kernel_rfl) Tryz.func4 (by kernel_rfl)
    (of_decide_eq_true (by kernel_rfl)) (by unfold Func.isWrapper; first | (rw [if_pos (by decide +kernel)]; kernel_rfl) | (rw [if_neg (by decide +kernel)]; exact ⟨rfl, rfl⟩))
    (fun os started H enc _ => lifted os started H enc)
theorem said : Rows.JourWholeSaid := over
theorem plain (f : FuncId) (fn : Func) (hf : Tryz.pinned.checked.prog.funcNamed "pendulum/pendulumlaw4.JourWhole" = some f) (hfn : Tryz.pinned.checked.prog.funcs[f]? = some fn) :
    true = Tryz.pinned.checked.prog.looks [] ∧ ∀ (j : Nat) t, fn.params[j]? = some t → Tryz.pinned.checked.prog.wantsStandIn t = false := by
  obtain rfl : f = 4 := Option.some.inj ((show Tryz.prog.funcNamed "pendulum/pendulumlaw4.JourWhole" = some 4 by kernel_rfl).symm.trans hf) |>.symm
  obtain rfl : fn = Tryz.f4 := (Option.some.inj (Tryz.func4.symm.trans hfn)).symm
  refine ⟨by kernel_rfl, fun j t ht => ?_⟩
  rw [Tryz.params4] at ht
  have hm := Array.mem_of_getElem? ht
  have h0 : ∀ t ∈ [3, 3, 23, 3], Tryz.prog.wantsStandIn t = false := by
    intro t ht
    simp only [List.mem_cons, List.not_mem_nil, or_false] at ht
    rcases ht with rfl | rfl | rfl | rfl <;> kernel_rfl
  exact h0 t (by simpa using hm)
theorem card : Rows.JourWholeCardSaid :=
  Claim7.holds_tied_plain_at .later [] _ _ _ _ said (fun _ h => by cases h) (by kernel_rfl) (fun _ h => by cases h) jourWhole_row_tie rfl ⟨rfl, rfl⟩ (by kernel_rfl) rfl plain (by kernel_rfl)
#print axioms card
end Go.Proofs.YthbbokndogjopaaGreatDoor.jourWhole
namespace Go.Proofs.YthbbokndogjopaaGreatDoor
/-- The row, under a short name, for the claim. -/
theorem jourWhole_holds : Rows.JourWholeCardSaid := jourWhole.card
end Go.Proofs.YthbbokndogjopaaGreatDoor
