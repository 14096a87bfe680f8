/- Printed by cmtext.py: the code as plain functions. -/
import Derived.Test.YtgbpbmdhphfdgaaDoorCCodeBack0
namespace Go.Proofs.YtgbpbmdhphfdgaaDoor.Cm
open Go
noncomputable section
set_option linter.unusedVariables false
set_option maxRecDepth 100000
/-! ### pendulum/pendulumref.SameInstrs -/
abbrev ref_SameInstrs_ins : Sh := ⟨[(.one (.val ty11)), (.one (.val ty11))], []⟩
abbrev ref_SameInstrs_outs : List Sh := [⟨[(.one (.val .bool))], []⟩]
abbrev ref_SameInstrs_l4_h : Sh := ⟨[(.one (.val ty11)), (.one (.val ty11)), (.one (.val (.int .i64)))], []⟩
abbrev ref_SameInstrs_l4_o : List Out := [⟨(.exit 0), [], ⟨[], []⟩⟩, ⟨.ret, [4], ⟨[(.one (.val .bool))], []⟩⟩]
def ref_SameInstrs_l4 (n : Nat) : Nat → ref_SameInstrs_l4_h.T → Option (OutT ref_SameInstrs_l4_o)
  | 0, _ => none
  | k + 1, ((x1, x2, x3, _), _) =>
    if decide (x3 < (x1.length : Int)) then
      if 0 ≤ x3 ∧ x3 < (x1.length : Int) then (
        if 0 ≤ x3 ∧ x3 < (x2.length : Int) then (
          match ref_SameInstr n ((((rdT ty4 x1 x3).1, ((rdT ty4 x1 x3).2).1, (((rdT ty4 x1 x3).2).2).1, ((((rdT ty4 x1 x3).2).2).2).1, (((((rdT ty4 x1 x3).2).2).2).2).1, (((((rdT ty4 x1 x3).2).2).2).2).2, ()), ((rdT ty4 x2 x3).1, ((rdT ty4 x2 x3).2).1, (((rdT ty4 x2 x3).2).2).1, ((((rdT ty4 x2 x3).2).2).2).1, (((((rdT ty4 x2 x3).2).2).2).2).1, (((((rdT ty4 x2 x3).2).2).2).2).2, ()), ()), ()) with
          | some ((x4, _), _) => (
            if !x4 then
              some (.inr (.inl ((false, ()), ())))
            else
              let v5 : Int := IntKind.i64.wrap (x3 + 1)
              ref_SameInstrs_l4 n k ((x1, x2, v5, ()), ()))
          | none => none) else none) else none
    else
      some (.inl ((), ()))
def ref_SameInstrs : Nat → ref_SameInstrs_ins.T → Option (OutsT ref_SameInstrs_outs)
  | 0, _ => none
  | n + 1, ((x1, x2, _), _) =>
    if (x1.length : Int) != (x2.length : Int) then
      some ((false, ()), ())
    else
      match ref_SameInstrs_l4 n n ((x1, x2, 0, ()), ()) with
      | some (.inl (_, _)) => (
        some ((true, ()), ()))
      | some (.inr (.inl ((x3, _), _))) => (
        some ((x3, ()), ()))
      | some (.inr (.inr (_))) => none
      | none => none
def ref_SameInstrs_H (n : Nat) : Hints := ⟨[], fun _ => [], fun k => match k with | 4 => some ⟨[0, 1, 5], ref_SameInstrs_l4_h, ref_SameInstrs_l4_o, ref_SameInstrs_l4 n⟩ | _ => none, fun _ => none, fun _ => none, fun _ => 0⟩
def ref_SameInstrs_O (n : Nat) : FuncId → List FSpec := asc [(42, ⟨ref_SameInstr_ins, ref_SameInstr_outs, ref_SameInstr n⟩)]
def b23 : Code := bodyOf Tryd.f23
theorem ref_SameInstrs_l4_k0 (n : Nat) : LoopOk P CC (ref_SameInstrs_O n) n 0 29 (ref_SameInstrs_H n) ⟨[0, 1, 5], ref_SameInstrs_l4_h, ref_SameInstrs_l4_o, ref_SameInstrs_l4 n⟩ ((loopsOf b23).getD 0 .skip) := by
  refine ⟨fun _ => by kernel_rfl, ?_⟩
  rintro k ⟨⟨x1, x2, x3, ⟨⟩⟩, ⟨⟩⟩
  kernel_rfl
theorem ref_SameInstrs_ok {S : Nat → Addr} (ok : CfgOk P CC S) : ∀ n, SpecOk P CC S 23 ⟨ref_SameInstrs_ins, ref_SameInstrs_outs, ref_SameInstrs n⟩ :=
  fn_all ok (O := ref_SameInstrs_O) (H := ref_SameInstrs_H) (fn := Tryd.f23) (body := b23) (by kernel_rfl) (by kernel_rfl) (by kernel_rfl) (by decide) (by kernel_rfl)
    (fun x => by kernel_rfl) (fun n => by
      rintro ⟨⟨x1, x2, ⟨⟩⟩, ⟨⟩⟩
      kernel_rfl)
    (fun n => obl_of (by kernel_rfl) (by kernel_rfl) (ls (lz) (by kernel_rfl) (ref_SameInstrs_l4_k0 n)) (cn (cn (cn (cn (cn (cn (cn (cn (cn (cn (cn (cn (cn (cz) (by kernel_rfl)) (by kernel_rfl)) (by kernel_rfl)) (by kernel_rfl)) (by kernel_rfl)) (by kernel_rfl)) (by kernel_rfl)) (by kernel_rfl)) (by kernel_rfl)) (by kernel_rfl)) (by kernel_rfl)) (by kernel_rfl)) (by kernel_rfl)) (hn fun _ => rfl))
    (fun n ih => asc_cons (ref_SameInstr_ok ok n) <| asc_nil)
/-! ### pendulum/pendulumref.SameObject -/
abbrev ref_SameObject_ins : Sh := ⟨[(.agg [(.val .str), (.val ty3), (.val ty3), (.val (.int .i64)), (.val ty9), (.val ty10), (.val ty11)]), (.agg [(.val .str), (.val ty3), (.val ty3), (.val (.int .i64)), (.val ty9), (.val ty10), (.val ty11)])], []⟩
abbrev ref_SameObject_outs : List Sh := [⟨[(.one (.val .bool))], []⟩]
def ref_SameObject : Nat → ref_SameObject_ins.T → Option (OutsT ref_SameObject_outs)
  | 0, _ => none
  | n + 1, (((x1, x2, x3, x4, x5, x6, x7, _), (x8, x9, x10, x11, x12, x13, x14, _), _), _) =>
    match ref_SameInts n ((x2, x9, ()), ()) with
    | some ((x15, _), _) => (
      match ref_SameInts n ((x3, x10, ()), ()) with
      | some ((x16, _), _) => (
        match ref_SameCells n ((x5, x12, ()), ()) with
        | some ((x17, _), _) => (
          match ref_SameInsts n ((x6, x13, ()), ()) with
          | some ((x18, _), _) => (
            match ref_SameInstrs n ((x7, x14, ()), ()) with
            | some ((x19, _), _) => (
              if x15 then
                if x16 then
                  if x17 then
                    if x18 then
                      if x19 then
                        if strEq x1 x8 then
                          some ((x4 == x11, ()), ())
                        else
                          some ((false, ()), ())
                      else
                        some ((false, ()), ())
                    else
                      some ((false, ()), ())
                  else
                    some ((false, ()), ())
                else
                  some ((false, ()), ())
              else
                some ((false, ()), ()))
            | none => none)
          | none => none)
        | none => none)
      | none => none)
    | none => none
def ref_SameObject_H (n : Nat) : Hints := ⟨[], fun _ => [], fun _ => none, fun _ => none, fun _ => none, fun _ => 0⟩
def ref_SameObject_O (n : Nat) : FuncId → List FSpec := asc [(20, ⟨ref_SameInts_ins, ref_SameInts_outs, ref_SameInts n⟩), (21, ⟨ref_SameCells_ins, ref_SameCells_outs, ref_SameCells n⟩), (22, ⟨ref_SameInsts_ins, ref_SameInsts_outs, ref_SameInsts n⟩), (23, ⟨ref_SameInstrs_ins, ref_SameInstrs_outs, ref_SameInstrs n⟩)]
def b10 : Code := bodyOf Tryd.f10
theorem ref_SameObject_ok {S : Nat → Addr} (ok : CfgOk P CC S) : ∀ n, SpecOk P CC S 10 ⟨ref_SameObject_ins, ref_SameObject_outs, ref_SameObject n⟩ :=
  fn_all ok (O := ref_SameObject_O) (H := ref_SameObject_H) (fn := Tryd.f10) (body := b10) (by kernel_rfl) (by kernel_rfl) (by kernel_rfl) (by decide) (by kernel_rfl)
    (fun x => by kernel_rfl) (fun n => by
      rintro ⟨⟨⟨x1, x2, x3, x4, x5, x6, x7, ⟨⟩⟩, ⟨x8, x9, x10, x11, x12, x13, x14, ⟨⟩⟩, ⟨⟩⟩, ⟨⟩⟩
      kernel_rfl)
    (fun n => obl_of (by kernel_rfl) (by kernel_rfl) (lz) (cn (cn (cn (cn (cn (cn (cn (cz) (by kernel_rfl)) (by kernel_rfl)) (by kernel_rfl)) (by kernel_rfl)) (by kernel_rfl)) (by kernel_rfl)) (by kernel_rfl)) (hn fun _ => rfl))
    (fun n ih => asc_cons (ref_SameInts_ok ok n) <| asc_cons (ref_SameCells_ok ok n) <| asc_cons (ref_SameInsts_ok ok n) <| asc_cons (ref_SameInstrs_ok ok n) <| asc_nil)
/-! ### pendulum/pendulumlaw21.CodeBack -/
abbrev law21_CodeBack_ins : Sh := ⟨[(.agg [(.val .str), (.val ty3), (.val ty3), (.val (.int .i64)), (.val ty9), (.val ty10), (.val ty11)]), (.one (.val ty12)), (.one (.val (.int .i64)))], []⟩
abbrev law21_CodeBack_outs : List Sh := [⟨[(.one (.val .bool))], []⟩]
def law21_CodeBack : Nat → law21_CodeBack_ins.T → Option (OutsT law21_CodeBack_outs)
  | 0, _ => none
  | n + 1, (((x1, x2, x3, x4, x5, x6, x7, _), x8, x9, _), _) =>
    match law21_first n ((), ()) with
    | some ((x10, _), _) => (
      if !x10 then
        some ((false, ()), ())
      else
        match world_Object n (((x1, x2, x3, x4, x5, x6, x7, ()), ()), ()) with
        | some ((x11, _), _) => (
          if !x11 then
            some ((x10, ()), ())
          else
            if decide ((x8.length : Int) > 60) then
              some ((x10, ()), ())
            else
              if !x10 then
                some ((x10, ()), ())
              else
                match code_Bytes n (((x1, x2, x3, x4, x5, x6, x7, ()), ()), ()) with
                | some ((((_, _), (x12, _), _), _), (l13, _)) => (
                  if !(errNil x12) then
                    some (((l13.length : Int) == 0, ()), ())
                  else
                    match ref_Bytes n (((), ()), (l13, ())) with
                    | some ((_, _), (l14, l15, _)) => (
                      if (l15.length + x8.length) * 1 ≤ 140737488355328 then (
                        match code_Read n (((), ()), (l15 ++ x8, ())) with
                        | some ((((x16, _, _, x17, _, _, _, _), (x18, _), (x19, _), _), _), (l20, l21, l22, l23, l24, l25, _)) => (
                          match world_Number n ((x9, (l14.length : Int), ()), ()) with
                          | some ((x26, _), _) => (
                            if 0 ≤ x26 ∧ x26 ≤ (l14.length : Int) then (
                              match code_Read_2 n ((cutL l14 0 x26, ()), ()) with
                              | some ((((x27, _, _, x28, _, _, _, _), (x29, _), (x30, _), _), _), (l31, l32, l33, l34, l35, _)) => (
                                if errNil x19 then
                                  if x18 == (l14.length : Int) then
                                    match ref_SameObject n (((x16, l21, l22, x17, l23, l24, l25, ()), (x1, x2, x3, x4, x5, x6, x7, ()), ()), ()) with
                                    | some ((x36, _), _) => (
                                      if x36 then
                                        if !(errNil x30) then
                                          some ((x29 == 0, ()), ())
                                        else
                                          some ((false, ()), ())
                                      else
                                        some ((false, ()), ()))
                                    | none => none
                                  else
                                    some ((false, ()), ())
                                else
                                  some ((false, ()), ()))
                              | none => none) else none)
                          | none => none)
                        | none => none) else none)
                    | none => none)
                | none => none)
        | none => none)
    | none => none
def law21_CodeBack_H (n : Nat) : Hints := ⟨[], fun _ => [], fun _ => none, fun _ => none, fun _ => none, fun _ => 0⟩
def law21_CodeBack_O (n : Nat) : FuncId → List FSpec := asc [(4, ⟨law21_first_ins, law21_first_outs, law21_first n⟩), (5, ⟨world_Object_ins, world_Object_outs, world_Object n⟩), (6, ⟨code_Bytes_ins, code_Bytes_outs, code_Bytes n⟩), (7, ⟨code_Read_ins, code_Read_outs, code_Read n⟩), (7, ⟨code_Read_2_ins, code_Read_2_outs, code_Read_2 n⟩), (8, ⟨ref_Bytes_ins, ref_Bytes_outs, ref_Bytes n⟩), (9, ⟨world_Number_ins, world_Number_outs, world_Number n⟩), (10, ⟨ref_SameObject_ins, ref_SameObject_outs, ref_SameObject n⟩)]
def b3 : Code := bodyOf Tryd.f3
theorem law21_CodeBack_ok {S : Nat → Addr} (ok : CfgOk P CC S) : ∀ n, SpecOk P CC S 3 ⟨law21_CodeBack_ins, law21_CodeBack_outs, law21_CodeBack n⟩ :=
  fn_all ok (O := law21_CodeBack_O) (H := law21_CodeBack_H) (fn := Tryd.f3) (body := b3) (by kernel_rfl) (by kernel_rfl) (by kernel_rfl) (by decide) (by kernel_rfl)
    (fun x => by kernel_rfl) (fun n => by
      rintro ⟨⟨⟨x1, x2, x3, x4, x5, x6, x7, ⟨⟩⟩, x8, x9, ⟨⟩⟩, ⟨⟩⟩
      kernel_rfl)
    (fun n => obl_of (by kernel_rfl) (by kernel_rfl) (lz) (cn (cn (cn (cn (cn (cn (cn (cn (cn (cn (cn (cn (cn (cn (cn (cz) (by kernel_rfl)) (by kernel_rfl)) (by kernel_rfl)) (by kernel_rfl)) (by kernel_rfl)) (by kernel_rfl)) (by kernel_rfl)) (by kernel_rfl)) (by kernel_rfl)) (by kernel_rfl)) (by kernel_rfl)) (by kernel_rfl)) (by kernel_rfl)) (by kernel_rfl)) (by kernel_rfl)) (hn fun _ => rfl))
    (fun n ih => asc_cons (law21_first_ok ok n) <| asc_cons (world_Object_ok ok n) <| asc_cons (code_Bytes_ok ok n) <| asc_cons (code_Read_ok ok n) <| asc_cons (code_Read_2_ok ok n) <| asc_cons (ref_Bytes_ok ok n) <| asc_cons (world_Number_ok ok n) <| asc_cons (ref_SameObject_ok ok n) <| asc_nil)
end
end Go.Proofs.YtgbpbmdhphfdgaaDoor.Cm
