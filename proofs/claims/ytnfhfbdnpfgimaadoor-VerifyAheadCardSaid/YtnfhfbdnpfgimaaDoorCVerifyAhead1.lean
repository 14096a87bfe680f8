/- Printed by cmtext.py: the code as plain functions. -/
import Derived.Test.YtnfhfbdnpfgimaaDoorCVerifyAhead0
namespace Go.Proofs.YtnfhfbdnpfgimaaDoor.Cm
open Go
noncomputable section
set_option linter.unusedVariables false
set_option maxRecDepth 100000
/-! ### (*pendulum/verify.checker).there -/
abbrev verify_checker_there_2_ins : Sh := ⟨[(.one (.ptr 0 0)), (.agg [(.val (.int .i64)), (.val (.int .i64)), (.val (.int .i64)), (.val (.int .i64)), (.val (.int .i64)), (.val (.int .i64))])], [(.obj 61 [(.val .str), (.val ty5), (.val ty5), (.val (.int .i64)), (.val ty11), (.arr 1), (.arr 2), (.arr 3), (.map 4)]), (.arr 29 ty2), (.arr 35 ty6), (.arr 42 ty3), (.map (.int .i64) (.int .i64) false)]⟩
abbrev verify_checker_there_2_outs : List Sh := [⟨[(.one (.val .bool))], [(.obj 61 [(.val .str), (.val ty5), (.val ty5), (.val (.int .i64)), (.val ty11), (.arr 1), (.arr 2), (.arr 3), (.map 4)]), (.arr 29 ty2), (.arr 35 ty6), (.arr 42 ty3), (.map (.int .i64) (.int .i64) false)]⟩]
abbrev verify_checker_there_2_c4_h : Sh := ⟨[(.one (.ptr 0 0)), (.one (.ptr 5 0)), (.one (.val (.int .i64)))], [(.obj 61 [(.val .str), (.val ty5), (.val ty5), (.val (.int .i64)), (.val ty11), (.arr 1), (.arr 2), (.arr 3), (.map 4)]), (.arr 29 ty2), (.arr 35 ty6), (.arr 42 ty3), (.map (.int .i64) (.int .i64) false), (.obj 35 [(.val (.int .i64)), (.val (.int .i64)), (.val (.int .i64)), (.val (.int .i64)), (.val (.int .i64)), (.val (.int .i64))])]⟩
abbrev verify_checker_there_2_c4_o : List Out := [⟨.normal, [0, 3, 6, 7], ⟨[(.one (.ptr 0 0)), (.one (.ptr 5 0)), (.one (.val (.int .i64))), (.one (.val .bool))], [(.obj 61 [(.val .str), (.val ty5), (.val ty5), (.val (.int .i64)), (.val ty11), (.arr 1), (.arr 2), (.arr 3), (.map 4)]), (.arr 29 ty2), (.arr 35 ty6), (.arr 42 ty3), (.map (.int .i64) (.int .i64) false), (.obj 35 [(.val (.int .i64)), (.val (.int .i64)), (.val (.int .i64)), (.val (.int .i64)), (.val (.int .i64)), (.val (.int .i64))])]⟩⟩]
def verify_checker_there_2_c4 (n : Nat) : verify_checker_there_2_c4_h.T → Option (OutT verify_checker_there_2_c4_o)
  | ((_, _, x1, _), ((x2, x3, x4, x5, x6, _, _, _, _, _), l7, l8, l9, m10, (x11, x12, x13, x14, x15, x16, _), _)) =>
    if x1 == 1 then
      some (.inl (((), (), x1, x1 == 1, ()), ((x2, x3, x4, x5, x6, (), (), (), (), ()), l7, l8, l9, m10, (x11, x12, x13, x14, x15, x16, ()), ())))
    else
      some (.inl (((), (), x1, x1 == 8, ()), ((x2, x3, x4, x5, x6, (), (), (), (), ()), l7, l8, l9, m10, (x11, x12, x13, x14, x15, x16, ()), ())))
abbrev verify_checker_there_2_c7_h : Sh := ⟨[(.one (.ptr 0 0)), (.one (.ptr 5 0)), (.one (.val (.int .i64)))], [(.obj 61 [(.val .str), (.val ty5), (.val ty5), (.val (.int .i64)), (.val ty11), (.arr 1), (.arr 2), (.arr 3), (.map 4)]), (.arr 29 ty2), (.arr 35 ty6), (.arr 42 ty3), (.map (.int .i64) (.int .i64) false), (.obj 35 [(.val (.int .i64)), (.val (.int .i64)), (.val (.int .i64)), (.val (.int .i64)), (.val (.int .i64)), (.val (.int .i64))])]⟩
abbrev verify_checker_there_2_c7_o : List Out := [⟨.normal, [0, 3, 6, 15], ⟨[(.one (.ptr 0 0)), (.one (.ptr 5 0)), (.one (.val (.int .i64))), (.one (.val .bool))], [(.obj 61 [(.val .str), (.val ty5), (.val ty5), (.val (.int .i64)), (.val ty11), (.arr 1), (.arr 2), (.arr 3), (.map 4)]), (.arr 29 ty2), (.arr 35 ty6), (.arr 42 ty3), (.map (.int .i64) (.int .i64) false), (.obj 35 [(.val (.int .i64)), (.val (.int .i64)), (.val (.int .i64)), (.val (.int .i64)), (.val (.int .i64)), (.val (.int .i64))])]⟩⟩]
def verify_checker_there_2_c7 (n : Nat) : verify_checker_there_2_c7_h.T → Option (OutT verify_checker_there_2_c7_o)
  | ((_, _, x1, _), ((x2, x3, x4, x5, x6, _, _, _, _, _), l7, l8, l9, m10, (x11, x12, x13, x14, x15, x16, _), _)) =>
    if x1 == 2 then
      some (.inl (((), (), x1, x1 == 2, ()), ((x2, x3, x4, x5, x6, (), (), (), (), ()), l7, l8, l9, m10, (x11, x12, x13, x14, x15, x16, ()), ())))
    else
      some (.inl (((), (), x1, x1 == 5, ()), ((x2, x3, x4, x5, x6, (), (), (), (), ()), l7, l8, l9, m10, (x11, x12, x13, x14, x15, x16, ()), ())))
def verify_checker_there_2 : Nat → verify_checker_there_2_ins.T → Option (OutsT verify_checker_there_2_outs)
  | 0, _ => none
  | n + 1, ((_, (x1, x2, x3, x4, x5, x6, _), _), ((x7, x8, x9, x10, x11, _, _, _, _, _), l12, l13, l14, m15, _)) =>
    match verify_checker_there_2_c4 n (((), (), x1, ()), ((x7, x8, x9, x10, x11, (), (), (), (), ()), l12, l13, l14, m15, (x1, x2, x3, x4, x5, x6, ()), ())) with
    | some (.inl ((_, _, x16, x17, _), ((x18, x19, x20, x21, x22, _, _, _, _, _), l23, l24, l25, m26, (x27, x28, x29, x30, x31, x32, _), _))) => (
      if x17 then
        match verify_checker_regs_2 n (((), [x28], ()), ((x18, x19, x20, x21, x22, (), (), (), (), ()), l23, l24, l25, m26, ())) with
        | some ((x33, _), ((x34, x35, x36, x37, x38, _, _, _, _, _), l39, l40, l41, m42, _)) => (
          some ((x33, ()), ((x34, x35, x36, x37, x38, (), (), (), (), ()), l39, l40, l41, m42, ())))
        | none => none
      else
        match verify_checker_there_2_c7 n (((), (), x16, ()), ((x18, x19, x20, x21, x22, (), (), (), (), ()), l23, l24, l25, m26, (x27, x28, x29, x30, x31, x32, ()), ())) with
        | some (.inl ((_, _, x43, x44, _), ((x45, x46, x47, x48, x49, _, _, _, _, _), l50, l51, l52, m53, (x54, x55, x56, x57, x58, x59, _), _))) => (
          if x44 then
            match verify_checker_regs_2 n (((), [x55, x56], ()), ((x45, x46, x47, x48, x49, (), (), (), (), ()), l50, l51, l52, m53, ())) with
            | some ((x60, _), ((x61, x62, x63, x64, x65, _, _, _, _, _), l66, l67, l68, m69, _)) => (
              some ((x60, ()), ((x61, x62, x63, x64, x65, (), (), (), (), ()), l66, l67, l68, m69, ())))
            | none => none
          else
            if x43 == 3 then
              match verify_checker_regs_2 n (((), [x55], ()), ((x45, x46, x47, x48, x49, (), (), (), (), ()), l50, l51, l52, m53, ())) with
              | some ((x70, _), ((x71, x72, x73, x74, x75, _, _, _, _, _), l76, l77, l78, m79, _)) => (
                if x70 then
                  match verify_checker_cell_2 n (((), x56, ()), ((x71, x72, x73, x74, x75, (), (), (), (), ()), l76, l77, l78, m79, ())) with
                  | some ((x80, _), ((x81, x82, x83, x84, x85, _, _, _, _, _), l86, l87, l88, m89, _)) => (
                    some ((x80, ()), ((x81, x82, x83, x84, x85, (), (), (), (), ()), l86, l87, l88, m89, ())))
                  | none => none
                else
                  some ((false, ()), ((x71, x72, x73, x74, x75, (), (), (), (), ()), l76, l77, l78, m79, ())))
              | none => none
            else
              if x43 == 4 then
                match verify_checker_regs_2 n (((), [x56], ()), ((x45, x46, x47, x48, x49, (), (), (), (), ()), l50, l51, l52, m53, ())) with
                | some ((x90, _), ((x91, x92, x93, x94, x95, _, _, _, _, _), l96, l97, l98, m99, _)) => (
                  if x90 then
                    match verify_checker_cell_2 n (((), x55, ()), ((x91, x92, x93, x94, x95, (), (), (), (), ()), l96, l97, l98, m99, ())) with
                    | some ((x100, _), ((x101, x102, x103, x104, x105, _, _, _, _, _), l106, l107, l108, m109, _)) => (
                      some ((x100, ()), ((x101, x102, x103, x104, x105, (), (), (), (), ()), l106, l107, l108, m109, ())))
                    | none => none
                  else
                    some ((false, ()), ((x91, x92, x93, x94, x95, (), (), (), (), ()), l96, l97, l98, m99, ())))
                | none => none
              else
                if x43 == 6 then
                  match verify_checker_regs_2 n (((), [x55, x56, x57], ()), ((x45, x46, x47, x48, x49, (), (), (), (), ()), l50, l51, l52, m53, ())) with
                  | some ((x110, _), ((x111, x112, x113, x114, x115, _, _, _, _, _), l116, l117, l118, m119, _)) => (
                    some ((x110, ()), ((x111, x112, x113, x114, x115, (), (), (), (), ()), l116, l117, l118, m119, ())))
                  | none => none
                else
                  if x43 == 7 then
                    match verify_checker_regs_2 n (((), [x55, x56, x57, x58], ()), ((x45, x46, x47, x48, x49, (), (), (), (), ()), l50, l51, l52, m53, ())) with
                    | some ((x120, _), ((x121, x122, x123, x124, x125, _, _, _, _, _), l126, l127, l128, m129, _)) => (
                      some ((x120, ()), ((x121, x122, x123, x124, x125, (), (), (), (), ()), l126, l127, l128, m129, ())))
                    | none => none
                  else
                    if x43 == 10 then
                      match verify_checker_inst_2 n (((), x55, ()), ((x45, x46, x47, x48, x49, (), (), (), (), ()), l50, l51, l52, m53, ())) with
                      | some ((x130, _), ((x131, x132, x133, x134, x135, _, _, _, _, _), l136, l137, l138, m139, _)) => (
                        some ((x130, ()), ((x131, x132, x133, x134, x135, (), (), (), (), ()), l136, l137, l138, m139, ())))
                      | none => none
                    else
                      if x43 == 11 then
                        match verify_checker_inst_2 n (((), x55, ()), ((x45, x46, x47, x48, x49, (), (), (), (), ()), l50, l51, l52, m53, ())) with
                        | some ((x140, _), ((x141, x142, x143, x144, x145, _, _, _, _, _), l146, l147, l148, m149, _)) => (
                          if x140 then
                            if 0 ≤ x55 ∧ x55 < (l148.length : Int) then (
                              match verify_checker_row_2 n (((), x56, ((((rdT ty3 l148 x55).2).1).length : Int), ()), ((x141, x142, x143, x144, x145, (), (), (), (), ()), l146, l147, l148, m149, ())) with
                              | some ((x150, _), ((x151, x152, x153, x154, x155, _, _, _, _, _), l156, l157, l158, m159, _)) => (
                                if x150 then
                                  if 0 ≤ x55 ∧ x55 < (l158.length : Int) then (
                                    match verify_checker_row_2 n (((), x57, ((((rdT ty3 l158 x55).2).2).length : Int), ()), ((x151, x152, x153, x154, x155, (), (), (), (), ()), l156, l157, l158, m159, ())) with
                                    | some ((x160, _), ((x161, x162, x163, x164, x165, _, _, _, _, _), l166, l167, l168, m169, _)) => (
                                      some ((x160, ()), ((x161, x162, x163, x164, x165, (), (), (), (), ()), l166, l167, l168, m169, ())))
                                    | none => none) else none
                                else
                                  some ((false, ()), ((x151, x152, x153, x154, x155, (), (), (), (), ()), l156, l157, l158, m159, ())))
                              | none => none) else none
                          else
                            some ((false, ()), ((x141, x142, x143, x144, x145, (), (), (), (), ()), l146, l147, l148, m149, ())))
                        | none => none
                      else
                        some ((true, ()), ((x45, x46, x47, x48, x49, (), (), (), (), ()), l50, l51, l52, m53, ())))
        | some (.inr (_)) => none
        | none => none)
    | some (.inr (_)) => none
    | none => none
def verify_checker_there_2_H (n : Nat) : Hints := ⟨[], fun _ => [], fun _ => none, fun k => match k with | 4 => some ⟨[0, 3, 6], verify_checker_there_2_c4_h, verify_checker_there_2_c4_o, fun n => verify_checker_there_2_c4 n⟩ | 7 => some ⟨[0, 3, 6], verify_checker_there_2_c7_h, verify_checker_there_2_c7_o, fun n => verify_checker_there_2_c7 n⟩ | _ => none⟩
def verify_checker_there_2_O (n : Nat) : FuncId → List FSpec := asc [(59, ⟨verify_checker_regs_2_ins, verify_checker_regs_2_outs, verify_checker_regs_2 n⟩), (60, ⟨verify_checker_cell_2_ins, verify_checker_cell_2_outs, verify_checker_cell_2 n⟩), (61, ⟨verify_checker_inst_2_ins, verify_checker_inst_2_outs, verify_checker_inst_2 n⟩), (62, ⟨verify_checker_row_2_ins, verify_checker_row_2_outs, verify_checker_row_2 n⟩)]
theorem verify_checker_there_2_c4_k3 (n : Nat) : CutOk P CC (verify_checker_there_2_O n) n 5 119 (verify_checker_there_2_H n) ⟨[0, 3, 6], verify_checker_there_2_c4_h, verify_checker_there_2_c4_o, fun n => verify_checker_there_2_c4 n⟩ ((cutsOf b39).getD 3 (0, .skip)).2 := by
  rintro ⟨⟨⟨⟩, ⟨⟩, x1, ⟨⟩⟩, ⟨⟨x2, x3, x4, x5, x6, ⟨⟩, ⟨⟩, ⟨⟩, ⟨⟩, ⟨⟩⟩, x7, x8, x9, x10, ⟨x11, x12, x13, x14, x15, x16, ⟨⟩⟩, ⟨⟩⟩⟩
  kernel_rfl
theorem verify_checker_there_2_c7_k6 (n : Nat) : CutOk P CC (verify_checker_there_2_O n) n 5 119 (verify_checker_there_2_H n) ⟨[0, 3, 6], verify_checker_there_2_c7_h, verify_checker_there_2_c7_o, fun n => verify_checker_there_2_c7 n⟩ ((cutsOf b39).getD 6 (0, .skip)).2 := by
  rintro ⟨⟨⟨⟩, ⟨⟩, x1, ⟨⟩⟩, ⟨⟨x2, x3, x4, x5, x6, ⟨⟩, ⟨⟩, ⟨⟩, ⟨⟩, ⟨⟩⟩, x7, x8, x9, x10, ⟨x11, x12, x13, x14, x15, x16, ⟨⟩⟩, ⟨⟩⟩⟩
  kernel_rfl
theorem verify_checker_there_2_ok {S : Nat → Addr} (ok : CfgOk P CC S) : ∀ n, SpecOk P CC S 39 ⟨verify_checker_there_2_ins, verify_checker_there_2_outs, verify_checker_there_2 n⟩ :=
  fn_all ok (O := verify_checker_there_2_O) (H := verify_checker_there_2_H) (fn := Tryd.f39) (body := b39) (by kernel_rfl) (by kernel_rfl) (by kernel_rfl) (by decide) (by kernel_rfl)
    (fun x => by kernel_rfl) (fun n => by
      rintro ⟨⟨⟨⟩, ⟨x1, x2, x3, x4, x5, x6, ⟨⟩⟩, ⟨⟩⟩, ⟨⟨x7, x8, x9, x10, x11, ⟨⟩, ⟨⟩, ⟨⟩, ⟨⟩, ⟨⟩⟩, x12, x13, x14, x15, ⟨⟩⟩⟩
      kernel_rfl)
    (fun n => obl_of (by kernel_rfl) (by kernel_rfl) (lz) (cn (cn (cn (cn (cn (cn (cn (cn (cn (cn (cn (cn (cn (cn (cn (cs (cn (cn (cs (cn (cn (cn (cz) (by kernel_rfl)) (by kernel_rfl)) (by kernel_rfl)) (by kernel_rfl) (verify_checker_there_2_c4_k3 n)) (by kernel_rfl)) (by kernel_rfl)) (by kernel_rfl) (verify_checker_there_2_c7_k6 n)) (by kernel_rfl)) (by kernel_rfl)) (by kernel_rfl)) (by kernel_rfl)) (by kernel_rfl)) (by kernel_rfl)) (by kernel_rfl)) (by kernel_rfl)) (by kernel_rfl)) (by kernel_rfl)) (by kernel_rfl)) (by kernel_rfl)) (by kernel_rfl)) (by kernel_rfl)) (by kernel_rfl)))
    (fun n ih => asc_cons (verify_checker_regs_2_ok ok n) <| asc_cons (verify_checker_cell_2_ok ok n) <| asc_cons (verify_checker_inst_2_ok ok n) <| asc_cons (verify_checker_row_2_ok ok n) <| asc_nil)
/-! ### (*pendulum/verify.checker).instr -/
abbrev verify_checker_instr_2_ins : Sh := ⟨[(.one (.ptr 0 0)), (.one (.val (.int .i64)))], [(.obj 61 [(.val .str), (.val ty5), (.val ty5), (.val (.int .i64)), (.val ty11), (.arr 1), (.arr 2), (.arr 3), (.map 4)]), (.arr 29 ty2), (.arr 35 ty6), (.arr 42 ty3), (.map (.int .i64) (.int .i64) false)]⟩
abbrev verify_checker_instr_2_outs : List Sh := [⟨[(.one (.val .err))], [(.obj 61 [(.val .str), (.val ty5), (.val ty5), (.val (.int .i64)), (.val ty11), (.arr 1), (.arr 2), (.arr 3), (.map 4)]), (.arr 29 ty2), (.arr 35 ty6), (.arr 42 ty3), (.map (.int .i64) (.int .i64) false)]⟩]
abbrev verify_checker_instr_2_c16_h : Sh := ⟨[(.one (.ptr 0 0)), (.one (.val (.int .i64))), (.one (.ptr 5 0))], [(.obj 61 [(.val .str), (.val ty5), (.val ty5), (.val (.int .i64)), (.val ty11), (.arr 1), (.arr 2), (.arr 3), (.map 4)]), (.arr 29 ty2), (.arr 35 ty6), (.arr 42 ty3), (.map (.int .i64) (.int .i64) false), (.obj 35 [(.val (.int .i64)), (.val (.int .i64)), (.val (.int .i64)), (.val (.int .i64)), (.val (.int .i64)), (.val (.int .i64))])]⟩
abbrev verify_checker_instr_2_c16_o : List Out := [⟨.normal, [0, 1, 5, 89], ⟨[(.one (.ptr 0 0)), (.one (.val (.int .i64))), (.one (.ptr 5 0)), (.one (.val .bool))], [(.obj 61 [(.val .str), (.val ty5), (.val ty5), (.val (.int .i64)), (.val ty11), (.arr 1), (.arr 2), (.arr 3), (.map 4)]), (.arr 29 ty2), (.arr 35 ty6), (.arr 42 ty3), (.map (.int .i64) (.int .i64) false), (.obj 35 [(.val (.int .i64)), (.val (.int .i64)), (.val (.int .i64)), (.val (.int .i64)), (.val (.int .i64)), (.val (.int .i64))])]⟩⟩]
def verify_checker_instr_2_c16 (n : Nat) : verify_checker_instr_2_c16_h.T → Option (OutT verify_checker_instr_2_c16_o)
  | ((_, x1, _, _), ((x2, x3, x4, x5, x6, _, _, _, _, _), l7, l8, l9, m10, (x11, x12, x13, x14, x15, x16, _), _)) =>
    if x11 == 8 then
      some (.inl (((), x1, (), x11 == 8, ()), ((x2, x3, x4, x5, x6, (), (), (), (), ()), l7, l8, l9, m10, (x11, x12, x13, x14, x15, x16, ()), ())))
    else
      some (.inl (((), x1, (), x11 == 9, ()), ((x2, x3, x4, x5, x6, (), (), (), (), ()), l7, l8, l9, m10, (x11, x12, x13, x14, x15, x16, ()), ())))
def verify_checker_instr_2 : Nat → verify_checker_instr_2_ins.T → Option (OutsT verify_checker_instr_2_outs)
  | 0, _ => none
  | n + 1, ((_, x1, _), ((x2, x3, x4, x5, x6, _, _, _, _, _), l7, l8, l9, m10, _)) =>
    if 0 ≤ x1 ∧ x1 < (l8.length : Int) then (
      if decide ((rdT ty6 l8 x1).1 < 1) then
        match verify_at n ((x1, ErrV.sent 102, ()), ()) with
        | some ((x11, _), _) => (
          some ((x11, ()), ((x2, x3, x4, x5, x6, (), (), (), (), ()), l7, l8, l9, m10, ())))
        | none => none
      else
        if decide ((rdT ty6 l8 x1).1 > 12) then
          match verify_at n ((x1, ErrV.sent 102, ()), ()) with
          | some ((x12, _), _) => (
            some ((x12, ()), ((x2, x3, x4, x5, x6, (), (), (), (), ()), l7, l8, l9, m10, ())))
          | none => none
        else
          match verify_checker_there_2 n (((), ((rdT ty6 l8 x1).1, ((rdT ty6 l8 x1).2).1, (((rdT ty6 l8 x1).2).2).1, ((((rdT ty6 l8 x1).2).2).2).1, (((((rdT ty6 l8 x1).2).2).2).2).1, (((((rdT ty6 l8 x1).2).2).2).2).2, ()), ()), ((x2, x3, x4, x5, x6, (), (), (), (), ()), l7, l8, l9, m10, ())) with
          | some ((x13, _), ((x14, x15, x16, x17, x18, _, _, _, _, _), l19, l20, l21, m22, _)) => (
            if !x13 then
              match verify_at n ((x1, ErrV.sent 104, ()), ()) with
              | some ((x23, _), _) => (
                some ((x23, ()), ((x14, x15, x16, x17, x18, (), (), (), (), ()), l19, l20, l21, m22, ())))
              | none => none
            else
              if (rdT ty6 l8 x1).1 == 5 then
                if ((((rdT ty6 l8 x1).2).2).2).1 != 4 then
                  if ((((rdT ty6 l8 x1).2).2).2).1 != 5 then
                    match verify_at n ((x1, ErrV.sent 102, ()), ()) with
                    | some ((x24, _), _) => (
                      some ((x24, ()), ((x14, x15, x16, x17, x18, (), (), (), (), ()), l19, l20, l21, m22, ())))
                    | none => none
                  else
                    if (rdT ty6 l8 x1).1 == 6 then
                      if decide ((((((rdT ty6 l8 x1).2).2).2).2).2 < 6) then
                        match verify_at n ((x1, ErrV.sent 102, ()), ()) with
                        | some ((x25, _), _) => (
                          some ((x25, ()), ((x14, x15, x16, x17, x18, (), (), (), (), ()), l19, l20, l21, m22, ())))
                        | none => none
                      else
                        if decide ((((((rdT ty6 l8 x1).2).2).2).2).2 > 19) then
                          match verify_at n ((x1, ErrV.sent 102, ()), ()) with
                          | some ((x26, _), _) => (
                            some ((x26, ()), ((x14, x15, x16, x17, x18, (), (), (), (), ()), l19, l20, l21, m22, ())))
                          | none => none
                        else
                          if (rdT ty6 l8 x1).1 == 11 then
                            let v27 : Int := (mfind (keyEq ((.int .i64) : Ty)) (((rdT ty6 l8 x1).2).1) m22).getD 0
                            if decide (v27 > 0) then
                              match verify_at n ((x1, ErrV.sent 103, ()), ()) with
                              | some ((x28, _), _) => (
                                some ((x28, ()), ((x14, x15, x16, x17, x18, (), (), (), (), ()), l19, l20, l21, m22, ())))
                              | none => none
                            else
                              some ((ErrV.nil, ()), ((x14, x15, x16, x17, x18, (), (), (), (), ()), l19, l20, l21, mset (keyEq ((.int .i64) : Ty)) (((rdT ty6 l8 x1).2).1) 1 m22, ()))
                          else
                            match verify_checker_instr_2_c16 n (((), x1, (), ()), ((x14, x15, x16, x17, x18, (), (), (), (), ()), l19, l20, l21, m22, ((rdT ty6 l8 x1).1, ((rdT ty6 l8 x1).2).1, (((rdT ty6 l8 x1).2).2).1, ((((rdT ty6 l8 x1).2).2).2).1, (((((rdT ty6 l8 x1).2).2).2).2).1, (((((rdT ty6 l8 x1).2).2).2).2).2, ()), ())) with
                            | some (.inl ((_, x29, _, x30, _), ((x31, x32, x33, x34, x35, _, _, _, _, _), l36, l37, l38, m39, (x40, x41, x42, x43, x44, x45, _), _))) => (
                              if x30 then
                                if decide (x45 ≤ x29) then
                                  match verify_at n ((x29, ErrV.sent 104, ()), ()) with
                                  | some ((x46, _), _) => (
                                    some ((x46, ()), ((x31, x32, x33, x34, x35, (), (), (), (), ()), l36, l37, l38, m39, ())))
                                  | none => none
                                else
                                  if decide (x45 ≥ (l37.length : Int)) then
                                    match verify_at n ((x29, ErrV.sent 104, ()), ()) with
                                    | some ((x47, _), _) => (
                                      some ((x47, ()), ((x31, x32, x33, x34, x35, (), (), (), (), ()), l36, l37, l38, m39, ())))
                                    | none => none
                                  else
                                    some ((ErrV.nil, ()), ((x31, x32, x33, x34, x35, (), (), (), (), ()), l36, l37, l38, m39, ()))
                              else
                                some ((ErrV.nil, ()), ((x31, x32, x33, x34, x35, (), (), (), (), ()), l36, l37, l38, m39, ())))
                            | some (.inr (_)) => none
                            | none => none
                    else
                      if (rdT ty6 l8 x1).1 == 11 then
                        let v48 : Int := (mfind (keyEq ((.int .i64) : Ty)) (((rdT ty6 l8 x1).2).1) m22).getD 0
                        if decide (v48 > 0) then
                          match verify_at n ((x1, ErrV.sent 103, ()), ()) with
                          | some ((x49, _), _) => (
                            some ((x49, ()), ((x14, x15, x16, x17, x18, (), (), (), (), ()), l19, l20, l21, m22, ())))
                          | none => none
                        else
                          some ((ErrV.nil, ()), ((x14, x15, x16, x17, x18, (), (), (), (), ()), l19, l20, l21, mset (keyEq ((.int .i64) : Ty)) (((rdT ty6 l8 x1).2).1) 1 m22, ()))
                      else
                        match verify_checker_instr_2_c16 n (((), x1, (), ()), ((x14, x15, x16, x17, x18, (), (), (), (), ()), l19, l20, l21, m22, ((rdT ty6 l8 x1).1, ((rdT ty6 l8 x1).2).1, (((rdT ty6 l8 x1).2).2).1, ((((rdT ty6 l8 x1).2).2).2).1, (((((rdT ty6 l8 x1).2).2).2).2).1, (((((rdT ty6 l8 x1).2).2).2).2).2, ()), ())) with
                        | some (.inl ((_, x50, _, x51, _), ((x52, x53, x54, x55, x56, _, _, _, _, _), l57, l58, l59, m60, (x61, x62, x63, x64, x65, x66, _), _))) => (
                          if x51 then
                            if decide (x66 ≤ x50) then
                              match verify_at n ((x50, ErrV.sent 104, ()), ()) with
                              | some ((x67, _), _) => (
                                some ((x67, ()), ((x52, x53, x54, x55, x56, (), (), (), (), ()), l57, l58, l59, m60, ())))
                              | none => none
                            else
                              if decide (x66 ≥ (l58.length : Int)) then
                                match verify_at n ((x50, ErrV.sent 104, ()), ()) with
                                | some ((x68, _), _) => (
                                  some ((x68, ()), ((x52, x53, x54, x55, x56, (), (), (), (), ()), l57, l58, l59, m60, ())))
                                | none => none
                              else
                                some ((ErrV.nil, ()), ((x52, x53, x54, x55, x56, (), (), (), (), ()), l57, l58, l59, m60, ()))
                          else
                            some ((ErrV.nil, ()), ((x52, x53, x54, x55, x56, (), (), (), (), ()), l57, l58, l59, m60, ())))
                        | some (.inr (_)) => none
                        | none => none
                else
                  if (rdT ty6 l8 x1).1 == 6 then
                    if decide ((((((rdT ty6 l8 x1).2).2).2).2).2 < 6) then
                      match verify_at n ((x1, ErrV.sent 102, ()), ()) with
                      | some ((x69, _), _) => (
                        some ((x69, ()), ((x14, x15, x16, x17, x18, (), (), (), (), ()), l19, l20, l21, m22, ())))
                      | none => none
                    else
                      if decide ((((((rdT ty6 l8 x1).2).2).2).2).2 > 19) then
                        match verify_at n ((x1, ErrV.sent 102, ()), ()) with
                        | some ((x70, _), _) => (
                          some ((x70, ()), ((x14, x15, x16, x17, x18, (), (), (), (), ()), l19, l20, l21, m22, ())))
                        | none => none
                      else
                        if (rdT ty6 l8 x1).1 == 11 then
                          let v71 : Int := (mfind (keyEq ((.int .i64) : Ty)) (((rdT ty6 l8 x1).2).1) m22).getD 0
                          if decide (v71 > 0) then
                            match verify_at n ((x1, ErrV.sent 103, ()), ()) with
                            | some ((x72, _), _) => (
                              some ((x72, ()), ((x14, x15, x16, x17, x18, (), (), (), (), ()), l19, l20, l21, m22, ())))
                            | none => none
                          else
                            some ((ErrV.nil, ()), ((x14, x15, x16, x17, x18, (), (), (), (), ()), l19, l20, l21, mset (keyEq ((.int .i64) : Ty)) (((rdT ty6 l8 x1).2).1) 1 m22, ()))
                        else
                          match verify_checker_instr_2_c16 n (((), x1, (), ()), ((x14, x15, x16, x17, x18, (), (), (), (), ()), l19, l20, l21, m22, ((rdT ty6 l8 x1).1, ((rdT ty6 l8 x1).2).1, (((rdT ty6 l8 x1).2).2).1, ((((rdT ty6 l8 x1).2).2).2).1, (((((rdT ty6 l8 x1).2).2).2).2).1, (((((rdT ty6 l8 x1).2).2).2).2).2, ()), ())) with
                          | some (.inl ((_, x73, _, x74, _), ((x75, x76, x77, x78, x79, _, _, _, _, _), l80, l81, l82, m83, (x84, x85, x86, x87, x88, x89, _), _))) => (
                            if x74 then
                              if decide (x89 ≤ x73) then
                                match verify_at n ((x73, ErrV.sent 104, ()), ()) with
                                | some ((x90, _), _) => (
                                  some ((x90, ()), ((x75, x76, x77, x78, x79, (), (), (), (), ()), l80, l81, l82, m83, ())))
                                | none => none
                              else
                                if decide (x89 ≥ (l81.length : Int)) then
                                  match verify_at n ((x73, ErrV.sent 104, ()), ()) with
                                  | some ((x91, _), _) => (
                                    some ((x91, ()), ((x75, x76, x77, x78, x79, (), (), (), (), ()), l80, l81, l82, m83, ())))
                                  | none => none
                                else
                                  some ((ErrV.nil, ()), ((x75, x76, x77, x78, x79, (), (), (), (), ()), l80, l81, l82, m83, ()))
                            else
                              some ((ErrV.nil, ()), ((x75, x76, x77, x78, x79, (), (), (), (), ()), l80, l81, l82, m83, ())))
                          | some (.inr (_)) => none
                          | none => none
                  else
                    if (rdT ty6 l8 x1).1 == 11 then
                      let v92 : Int := (mfind (keyEq ((.int .i64) : Ty)) (((rdT ty6 l8 x1).2).1) m22).getD 0
                      if decide (v92 > 0) then
                        match verify_at n ((x1, ErrV.sent 103, ()), ()) with
                        | some ((x93, _), _) => (
                          some ((x93, ()), ((x14, x15, x16, x17, x18, (), (), (), (), ()), l19, l20, l21, m22, ())))
                        | none => none
                      else
                        some ((ErrV.nil, ()), ((x14, x15, x16, x17, x18, (), (), (), (), ()), l19, l20, l21, mset (keyEq ((.int .i64) : Ty)) (((rdT ty6 l8 x1).2).1) 1 m22, ()))
                    else
                      match verify_checker_instr_2_c16 n (((), x1, (), ()), ((x14, x15, x16, x17, x18, (), (), (), (), ()), l19, l20, l21, m22, ((rdT ty6 l8 x1).1, ((rdT ty6 l8 x1).2).1, (((rdT ty6 l8 x1).2).2).1, ((((rdT ty6 l8 x1).2).2).2).1, (((((rdT ty6 l8 x1).2).2).2).2).1, (((((rdT ty6 l8 x1).2).2).2).2).2, ()), ())) with
                      | some (.inl ((_, x94, _, x95, _), ((x96, x97, x98, x99, x100, _, _, _, _, _), l101, l102, l103, m104, (x105, x106, x107, x108, x109, x110, _), _))) => (
                        if x95 then
                          if decide (x110 ≤ x94) then
                            match verify_at n ((x94, ErrV.sent 104, ()), ()) with
                            | some ((x111, _), _) => (
                              some ((x111, ()), ((x96, x97, x98, x99, x100, (), (), (), (), ()), l101, l102, l103, m104, ())))
                            | none => none
                          else
                            if decide (x110 ≥ (l102.length : Int)) then
                              match verify_at n ((x94, ErrV.sent 104, ()), ()) with
                              | some ((x112, _), _) => (
                                some ((x112, ()), ((x96, x97, x98, x99, x100, (), (), (), (), ()), l101, l102, l103, m104, ())))
                              | none => none
                            else
                              some ((ErrV.nil, ()), ((x96, x97, x98, x99, x100, (), (), (), (), ()), l101, l102, l103, m104, ()))
                        else
                          some ((ErrV.nil, ()), ((x96, x97, x98, x99, x100, (), (), (), (), ()), l101, l102, l103, m104, ())))
                      | some (.inr (_)) => none
                      | none => none
              else
                if (rdT ty6 l8 x1).1 == 6 then
                  if decide ((((((rdT ty6 l8 x1).2).2).2).2).2 < 6) then
                    match verify_at n ((x1, ErrV.sent 102, ()), ()) with
                    | some ((x113, _), _) => (
                      some ((x113, ()), ((x14, x15, x16, x17, x18, (), (), (), (), ()), l19, l20, l21, m22, ())))
                    | none => none
                  else
                    if decide ((((((rdT ty6 l8 x1).2).2).2).2).2 > 19) then
                      match verify_at n ((x1, ErrV.sent 102, ()), ()) with
                      | some ((x114, _), _) => (
                        some ((x114, ()), ((x14, x15, x16, x17, x18, (), (), (), (), ()), l19, l20, l21, m22, ())))
                      | none => none
                    else
                      if (rdT ty6 l8 x1).1 == 11 then
                        let v115 : Int := (mfind (keyEq ((.int .i64) : Ty)) (((rdT ty6 l8 x1).2).1) m22).getD 0
                        if decide (v115 > 0) then
                          match verify_at n ((x1, ErrV.sent 103, ()), ()) with
                          | some ((x116, _), _) => (
                            some ((x116, ()), ((x14, x15, x16, x17, x18, (), (), (), (), ()), l19, l20, l21, m22, ())))
                          | none => none
                        else
                          some ((ErrV.nil, ()), ((x14, x15, x16, x17, x18, (), (), (), (), ()), l19, l20, l21, mset (keyEq ((.int .i64) : Ty)) (((rdT ty6 l8 x1).2).1) 1 m22, ()))
                      else
                        match verify_checker_instr_2_c16 n (((), x1, (), ()), ((x14, x15, x16, x17, x18, (), (), (), (), ()), l19, l20, l21, m22, ((rdT ty6 l8 x1).1, ((rdT ty6 l8 x1).2).1, (((rdT ty6 l8 x1).2).2).1, ((((rdT ty6 l8 x1).2).2).2).1, (((((rdT ty6 l8 x1).2).2).2).2).1, (((((rdT ty6 l8 x1).2).2).2).2).2, ()), ())) with
                        | some (.inl ((_, x117, _, x118, _), ((x119, x120, x121, x122, x123, _, _, _, _, _), l124, l125, l126, m127, (x128, x129, x130, x131, x132, x133, _), _))) => (
                          if x118 then
                            if decide (x133 ≤ x117) then
                              match verify_at n ((x117, ErrV.sent 104, ()), ()) with
                              | some ((x134, _), _) => (
                                some ((x134, ()), ((x119, x120, x121, x122, x123, (), (), (), (), ()), l124, l125, l126, m127, ())))
                              | none => none
                            else
                              if decide (x133 ≥ (l125.length : Int)) then
                                match verify_at n ((x117, ErrV.sent 104, ()), ()) with
                                | some ((x135, _), _) => (
                                  some ((x135, ()), ((x119, x120, x121, x122, x123, (), (), (), (), ()), l124, l125, l126, m127, ())))
                                | none => none
                              else
                                some ((ErrV.nil, ()), ((x119, x120, x121, x122, x123, (), (), (), (), ()), l124, l125, l126, m127, ()))
                          else
                            some ((ErrV.nil, ()), ((x119, x120, x121, x122, x123, (), (), (), (), ()), l124, l125, l126, m127, ())))
                        | some (.inr (_)) => none
                        | none => none
                else
                  if (rdT ty6 l8 x1).1 == 11 then
                    let v136 : Int := (mfind (keyEq ((.int .i64) : Ty)) (((rdT ty6 l8 x1).2).1) m22).getD 0
                    if decide (v136 > 0) then
                      match verify_at n ((x1, ErrV.sent 103, ()), ()) with
                      | some ((x137, _), _) => (
                        some ((x137, ()), ((x14, x15, x16, x17, x18, (), (), (), (), ()), l19, l20, l21, m22, ())))
                      | none => none
                    else
                      some ((ErrV.nil, ()), ((x14, x15, x16, x17, x18, (), (), (), (), ()), l19, l20, l21, mset (keyEq ((.int .i64) : Ty)) (((rdT ty6 l8 x1).2).1) 1 m22, ()))
                  else
                    match verify_checker_instr_2_c16 n (((), x1, (), ()), ((x14, x15, x16, x17, x18, (), (), (), (), ()), l19, l20, l21, m22, ((rdT ty6 l8 x1).1, ((rdT ty6 l8 x1).2).1, (((rdT ty6 l8 x1).2).2).1, ((((rdT ty6 l8 x1).2).2).2).1, (((((rdT ty6 l8 x1).2).2).2).2).1, (((((rdT ty6 l8 x1).2).2).2).2).2, ()), ())) with
                    | some (.inl ((_, x138, _, x139, _), ((x140, x141, x142, x143, x144, _, _, _, _, _), l145, l146, l147, m148, (x149, x150, x151, x152, x153, x154, _), _))) => (
                      if x139 then
                        if decide (x154 ≤ x138) then
                          match verify_at n ((x138, ErrV.sent 104, ()), ()) with
                          | some ((x155, _), _) => (
                            some ((x155, ()), ((x140, x141, x142, x143, x144, (), (), (), (), ()), l145, l146, l147, m148, ())))
                          | none => none
                        else
                          if decide (x154 ≥ (l146.length : Int)) then
                            match verify_at n ((x138, ErrV.sent 104, ()), ()) with
                            | some ((x156, _), _) => (
                              some ((x156, ()), ((x140, x141, x142, x143, x144, (), (), (), (), ()), l145, l146, l147, m148, ())))
                            | none => none
                          else
                            some ((ErrV.nil, ()), ((x140, x141, x142, x143, x144, (), (), (), (), ()), l145, l146, l147, m148, ()))
                      else
                        some ((ErrV.nil, ()), ((x140, x141, x142, x143, x144, (), (), (), (), ()), l145, l146, l147, m148, ())))
                    | some (.inr (_)) => none
                    | none => none)
          | none => none) else none
def verify_checker_instr_2_H (n : Nat) : Hints := ⟨[], fun _ => [], fun _ => none, fun k => match k with | 16 => some ⟨[0, 1, 5], verify_checker_instr_2_c16_h, verify_checker_instr_2_c16_o, fun n => verify_checker_instr_2_c16 n⟩ | _ => none⟩
def verify_checker_instr_2_O (n : Nat) : FuncId → List FSpec := asc [(19, ⟨verify_at_ins, verify_at_outs, verify_at n⟩), (39, ⟨verify_checker_there_2_ins, verify_checker_there_2_outs, verify_checker_there_2 n⟩)]
theorem verify_checker_instr_2_c16_k15 (n : Nat) : CutOk P CC (verify_checker_instr_2_O n) n 5 114 (verify_checker_instr_2_H n) ⟨[0, 1, 5], verify_checker_instr_2_c16_h, verify_checker_instr_2_c16_o, fun n => verify_checker_instr_2_c16 n⟩ ((cutsOf b22).getD 15 (0, .skip)).2 := by
  rintro ⟨⟨⟨⟩, x1, ⟨⟩, ⟨⟩⟩, ⟨⟨x2, x3, x4, x5, x6, ⟨⟩, ⟨⟩, ⟨⟩, ⟨⟩, ⟨⟩⟩, x7, x8, x9, x10, ⟨x11, x12, x13, x14, x15, x16, ⟨⟩⟩, ⟨⟩⟩⟩
  kernel_rfl
theorem verify_checker_instr_2_ok {S : Nat → Addr} (ok : CfgOk P CC S) : ∀ n, SpecOk P CC S 22 ⟨verify_checker_instr_2_ins, verify_checker_instr_2_outs, verify_checker_instr_2 n⟩ :=
  fn_all ok (O := verify_checker_instr_2_O) (H := verify_checker_instr_2_H) (fn := Tryd.f22) (body := b22) (by kernel_rfl) (by kernel_rfl) (by kernel_rfl) (by decide) (by kernel_rfl)
    (fun x => by kernel_rfl) (fun n => by
      rintro ⟨⟨⟨⟩, x1, ⟨⟩⟩, ⟨⟨x2, x3, x4, x5, x6, ⟨⟩, ⟨⟩, ⟨⟩, ⟨⟩, ⟨⟩⟩, x7, x8, x9, x10, ⟨⟩⟩⟩
      kernel_rfl)
    (fun n => obl_of (by kernel_rfl) (by kernel_rfl) (lz) (cn (cn (cn (cn (cs (cn (cn (cn (cn (cn (cn (cn (cn (cn (cn (cn (cn (cn (cn (cn (cz) (by kernel_rfl)) (by kernel_rfl)) (by kernel_rfl)) (by kernel_rfl)) (by kernel_rfl)) (by kernel_rfl)) (by kernel_rfl)) (by kernel_rfl)) (by kernel_rfl)) (by kernel_rfl)) (by kernel_rfl)) (by kernel_rfl)) (by kernel_rfl)) (by kernel_rfl)) (by kernel_rfl)) (by kernel_rfl) (verify_checker_instr_2_c16_k15 n)) (by kernel_rfl)) (by kernel_rfl)) (by kernel_rfl)) (by kernel_rfl)))
    (fun n ih => asc_cons (verify_at_ok ok n) <| asc_cons (verify_checker_there_2_ok ok n) <| asc_nil)
/-! ### pendulum/verify.Object -/
abbrev verify_Object_2_ins : Sh := ⟨[(.agg [(.val .str), (.val ty5), (.val ty5), (.val (.int .i64)), (.val ty11), (.arr 0), (.arr 1)]), (.one (.val ty13))], [(.arr 29 ty2), (.arr 35 ty6)]⟩
abbrev verify_Object_2_outs : List Sh := [⟨[(.one (.val .err))], [(.arr 29 ty2), (.arr 35 ty6)]⟩]
abbrev verify_Object_2_l5_h : Sh := ⟨[(.one (.val ty13)), (.one (.ptr 2 0)), (.one (.ptr 3 0)), (.one (.arr 0)), (.one (.val (.int .i64))), (.one (.val (.int .i64)))], [(.arr 29 ty2), (.arr 35 ty6), (.obj 33 [(.val .str), (.val ty5), (.val ty5), (.val (.int .i64)), (.val ty11), (.arr 0), (.arr 1)]), (.obj 61 [(.val .str), (.val ty5), (.val ty5), (.val (.int .i64)), (.val ty11), (.arr 0), (.arr 1), (.arr 4), (.map 5)]), (.arr 42 ty3), (.map (.int .i64) (.int .i64) false)]⟩
abbrev verify_Object_2_l5_o : List Out := [⟨(.exit 0), [2, 5], ⟨[(.one (.ptr 2 0)), (.one (.ptr 3 0))], [(.arr 29 ty2), (.arr 35 ty6), (.obj 33 [(.val .str), (.val ty5), (.val ty5), (.val (.int .i64)), (.val ty11), (.arr 0), (.arr 1)]), (.obj 61 [(.val .str), (.val ty5), (.val ty5), (.val (.int .i64)), (.val ty11), (.arr 0), (.arr 1), (.arr 4), (.map 5)]), (.arr 42 ty3), (.map (.int .i64) (.int .i64) false)]⟩⟩, ⟨.ret, [4], ⟨[(.one (.val .err))], [(.arr 29 ty2), (.arr 35 ty6)]⟩⟩]
def verify_Object_2_l5 (n : Nat) : Nat → verify_Object_2_l5_h.T → Option (OutT verify_Object_2_l5_o)
  | 0, _ => none
  | k + 1, ((x1, _, _, _, x2, x3, _), (l4, l5, (x6, x7, x8, x9, x10, _, _, _), (x11, x12, x13, x14, x15, _, _, _, _, _), l16, m17, _)) =>
    if decide (x3 < x2) then
      if 0 ≤ x3 ∧ x3 < (l4.length : Int) then (
        match slices_IndexFunc_api_Face_api_Face n ((x1, (), ()), (((rdT ty2 l4 x3).1, (rdT ty2 l4 x3).2, ()), ())) with
        | some ((x18, _), ((x19, x20, _), _)) => (
          if decide (x18 < 0) then
            match verify_at n (((-1), ErrV.sent 116, ()), ()) with
            | some ((x21, _), _) => (
              some (.inr (.inl ((x21, ()), (l4, l5, ())))))
            | none => none
          else
            if 0 ≤ x18 ∧ x18 < (x1.length : Int) then (
              if (l16.length + ([((rdT ty3 x1 x18).1, ((rdT ty3 x1 x18).2))] : List ty3.T).length) * 64 ≤ 140737488355328 then (
                let v22 : Int := IntKind.i64.wrap (x3 + 1)
                verify_Object_2_l5 n k ((x1, (), (), (), x2, v22, ()), (l4, l5, (x6, x7, x8, x9, x10, (), (), ()), (x11, x12, x13, x14, x15, (), (), (), (), ()), l16 ++ [((rdT ty3 x1 x18).1, ((rdT ty3 x1 x18).2))], m17, ()))) else none) else none)
        | none => none) else none
    else
      some (.inl (((), (), ()), (l4, l5, (x6, x7, x8, x9, x10, (), (), ()), (x11, x12, x13, x14, x15, (), (), (), (), ()), l16, m17, ())))
abbrev verify_Object_2_l16_h : Sh := ⟨[(.one (.ptr 2 0)), (.one (.val (.int .i64))), (.one (.val (.int .i64)))], [(.arr 29 ty2), (.arr 35 ty6), (.obj 61 [(.val .str), (.val ty5), (.val ty5), (.val (.int .i64)), (.val ty11), (.arr 0), (.arr 1), (.arr 3), (.map 4)]), (.arr 42 ty3), (.map (.int .i64) (.int .i64) false)]⟩
abbrev verify_Object_2_l16_o : List Out := [⟨(.exit 2), [], ⟨[], [(.arr 29 ty2), (.arr 35 ty6)]⟩⟩, ⟨.ret, [4], ⟨[(.one (.val .err))], [(.arr 29 ty2), (.arr 35 ty6)]⟩⟩]
def verify_Object_2_l16 (n : Nat) : Nat → verify_Object_2_l16_h.T → Option (OutT verify_Object_2_l16_o)
  | 0, _ => none
  | k + 1, ((_, x1, x2, _), (l3, l4, (x5, x6, x7, x8, x9, _, _, _, _, _), l10, m11, _)) =>
    if decide (x2 < x1) then
      match verify_checker_instr_2 n (((), x2, ()), ((x5, x6, x7, x8, x9, (), (), (), (), ()), l3, l4, l10, m11, ())) with
      | some ((x12, _), ((x13, x14, x15, x16, x17, _, _, _, _, _), l18, l19, l20, m21, _)) => (
        if !(errNil x12) then
          some (.inr (.inl ((x12, ()), (l18, l19, ()))))
        else
          let v22 : Int := IntKind.i64.wrap (x2 + 1)
          verify_Object_2_l16 n k (((), x1, v22, ()), (l18, l19, (x13, x14, x15, x16, x17, (), (), (), (), ()), l20, m21, ())))
      | none => none
    else
      some (.inl ((), (l3, l4, ())))
def verify_Object_2 : Nat → verify_Object_2_ins.T → Option (OutsT verify_Object_2_outs)
  | 0, _ => none
  | n + 1, (((x1, x2, x3, x4, x5, _, _, _), x6, _), (l7, l8, _)) =>
    match verify_shape_2 n (((x1, x2, x3, x4, x5, (), (), ()), ()), (l7, l8, ())) with
    | some ((x9, _), (l10, l11, _)) => (
      if !x9 then
        match verify_at n (((-1), ErrV.sent 102, ()), ()) with
        | some ((x12, _), _) => (
          some ((x12, ()), (l10, l11, ())))
        | none => none
      else
        match verify_Object_2_l5 n n ((x6, (), (), (), (l10.length : Int), 0, ()), (l10, l11, (x1, x2, x3, x4, x5, (), (), ()), (x1, x2, x3, x4, x5, (), (), (), (), ()), [], [], ())) with
        | some (.inl ((_, _, _), (l13, l14, (x15, x16, x17, x18, x19, _, _, _), (x20, x21, x22, x23, x24, _, _, _, _, _), l25, m26, _))) => (
          if (l14.length : Int) == 0 then
            match verify_at n (((l14.length : Int), ErrV.sent 101, ()), ()) with
            | some ((x31, _), _) => (
              some ((x31, ()), (l13, l14, ())))
            | none => none
          else
            let v30 : Int := IntKind.i64.wrap ((l14.length : Int) - 1)
            if 0 ≤ v30 ∧ v30 < (l14.length : Int) then (
              if (rdT ty6 l14 v30).1 != 12 then
                match verify_at n (((l14.length : Int), ErrV.sent 101, ()), ()) with
                | some ((x32, _), _) => (
                  some ((x32, ()), (l13, l14, ())))
                | none => none
              else
                match verify_Object_2_l16 n n (((), (l14.length : Int), 0, ()), (l13, l14, (x20, x21, x22, x23, x24, (), (), (), (), ()), l25, m26, ())) with
                | some (.inl (_, (l33, l34, _))) => (
                  some ((ErrV.nil, ()), (l33, l34, ())))
                | some (.inr (.inl ((x35, _), (l36, l37, _)))) => (
                  some ((x35, ()), (l36, l37, ())))
                | some (.inr (.inr (_))) => none
                | none => none) else none)
        | some (.inr (.inl ((x27, _), (l28, l29, _)))) => (
          some ((x27, ()), (l28, l29, ())))
        | some (.inr (.inr (_))) => none
        | none => none)
    | none => none
def verify_Object_2_H (n : Nat) : Hints := ⟨[], fun _ => [], fun k => match k with | 5 => some ⟨[1, 2, 5, 22, 23, 24], verify_Object_2_l5_h, verify_Object_2_l5_o, verify_Object_2_l5 n⟩ | 16 => some ⟨[5, 69, 70], verify_Object_2_l16_h, verify_Object_2_l16_o, verify_Object_2_l16 n⟩ | _ => none, fun _ => none⟩
def verify_Object_2_O (n : Nat) : FuncId → List FSpec := asc [(18, ⟨verify_shape_2_ins, verify_shape_2_outs, verify_shape_2 n⟩), (19, ⟨verify_at_ins, verify_at_outs, verify_at n⟩), (20, ⟨slices_IndexFunc_api_Face_api_Face_ins, slices_IndexFunc_api_Face_api_Face_outs, slices_IndexFunc_api_Face_api_Face n⟩), (22, ⟨verify_checker_instr_2_ins, verify_checker_instr_2_outs, verify_checker_instr_2 n⟩)]
theorem verify_Object_2_l5_k0 (n : Nat) : LoopOk P CC (verify_Object_2_O n) n 2 80 (verify_Object_2_H n) ⟨[1, 2, 5, 22, 23, 24], verify_Object_2_l5_h, verify_Object_2_l5_o, verify_Object_2_l5 n⟩ ((loopsOf b12).getD 0 .skip) := by
  refine ⟨fun _ => by kernel_rfl, ?_⟩
  rintro k ⟨⟨x1, ⟨⟩, ⟨⟩, ⟨⟩, x2, x3, ⟨⟩⟩, ⟨x4, x5, ⟨x6, x7, x8, x9, x10, ⟨⟩, ⟨⟩, ⟨⟩⟩, ⟨x11, x12, x13, x14, x15, ⟨⟩, ⟨⟩, ⟨⟩, ⟨⟩, ⟨⟩⟩, x16, x17, ⟨⟩⟩⟩
  kernel_rfl
theorem verify_Object_2_l16_k1 (n : Nat) : LoopOk P CC (verify_Object_2_O n) n 2 80 (verify_Object_2_H n) ⟨[5, 69, 70], verify_Object_2_l16_h, verify_Object_2_l16_o, verify_Object_2_l16 n⟩ ((loopsOf b12).getD 1 .skip) := by
  refine ⟨fun _ => by kernel_rfl, ?_⟩
  rintro k ⟨⟨⟨⟩, x1, x2, ⟨⟩⟩, ⟨x3, x4, ⟨x5, x6, x7, x8, x9, ⟨⟩, ⟨⟩, ⟨⟩, ⟨⟩, ⟨⟩⟩, x10, x11, ⟨⟩⟩⟩
  kernel_rfl
theorem verify_Object_2_ok {S : Nat → Addr} (ok : CfgOk P CC S) : ∀ n, SpecOk P CC S 12 ⟨verify_Object_2_ins, verify_Object_2_outs, verify_Object_2 n⟩ :=
  fn_all ok (O := verify_Object_2_O) (H := verify_Object_2_H) (fn := Tryd.f12) (body := b12) (by kernel_rfl) (by kernel_rfl) (by kernel_rfl) (by decide) (by kernel_rfl)
    (fun x => by kernel_rfl) (fun n => by
      rintro ⟨⟨⟨x1, x2, x3, x4, x5, ⟨⟩, ⟨⟩, ⟨⟩⟩, x6, ⟨⟩⟩, ⟨x7, x8, ⟨⟩⟩⟩
      kernel_rfl)
    (fun n => obl_of (by kernel_rfl) (by kernel_rfl) (ls (ls (lz) (by kernel_rfl) (verify_Object_2_l5_k0 n)) (by kernel_rfl) (verify_Object_2_l16_k1 n)) (cn (cn (cn (cn (cn (cn (cn (cn (cn (cn (cn (cn (cn (cn (cn (cn (cn (cn (cn (cn (cn (cn (cn (cn (cn (cn (cn (cn (cn (cz) (by kernel_rfl)) (by kernel_rfl)) (by kernel_rfl)) (by kernel_rfl)) (by kernel_rfl)) (by kernel_rfl)) (by kernel_rfl)) (by kernel_rfl)) (by kernel_rfl)) (by kernel_rfl)) (by kernel_rfl)) (by kernel_rfl)) (by kernel_rfl)) (by kernel_rfl)) (by kernel_rfl)) (by kernel_rfl)) (by kernel_rfl)) (by kernel_rfl)) (by kernel_rfl)) (by kernel_rfl)) (by kernel_rfl)) (by kernel_rfl)) (by kernel_rfl)) (by kernel_rfl)) (by kernel_rfl)) (by kernel_rfl)) (by kernel_rfl)) (by kernel_rfl)) (by kernel_rfl)))
    (fun n ih => asc_cons (verify_shape_2_ok ok n) <| asc_cons (verify_at_ok ok n) <| asc_cons (slices_IndexFunc_api_Face_api_Face_ok ok n) <| asc_cons (verify_checker_instr_2_ok ok n) <| asc_nil)
/-! ### pendulum/pendulumlaw22.VerifyAhead -/
abbrev law22_VerifyAhead_ins : Sh := ⟨[(.one (.val (.int .i64))), (.one (.val (.int .i64))), (.one (.val (.int .i64))), (.one (.val .bool)), (.one (.val .bool))], []⟩
abbrev law22_VerifyAhead_outs : List Sh := [⟨[(.one (.val .bool))], []⟩]
abbrev law22_VerifyAhead_l9_h : Sh := ⟨[(.one (.val (.int .i64))), (.one (.val (.int .i64))), (.one (.val (.int .i64))), (.one (.val .bool)), (.one (.val .bool)), (.one (.val .bool)), (.one (.ptr 0 0)), (.one (.val (.int .i64)))], [(.obj 33 [(.val .str), (.emp true), (.emp true), (.val (.int .i64)), (.emp true), (.arr 1), (.arr 2)]), (.arr 29 ty2), (.arr 35 ty6)]⟩
abbrev law22_VerifyAhead_l9_o : List Out := [⟨(.exit 0), [0, 1, 2, 3, 4, 11, 12], ⟨[(.one (.val (.int .i64))), (.one (.val (.int .i64))), (.one (.val (.int .i64))), (.one (.val .bool)), (.one (.val .bool)), (.one (.val .bool)), (.one (.ptr 0 0))], [(.obj 33 [(.val .str), (.emp true), (.emp true), (.val (.int .i64)), (.emp true), (.arr 1), (.arr 2)]), (.arr 29 ty2), (.arr 35 ty6)]⟩⟩]
def law22_VerifyAhead_l9 (n : Nat) : Nat → law22_VerifyAhead_l9_h.T → Option (OutT law22_VerifyAhead_l9_o)
  | 0, _ => none
  | k + 1, ((x1, x2, x3, x4, x5, x6, _, x7, _), ((x8, _, _, x9, _, _, _, _), l10, l11, _)) =>
    if decide (x7 < x1) then
      if (l11.length + ([(1, (Int.tmod x7 3, (0, (0, (0, 0)))))] : List ty6.T).length) * 48 ≤ 140737488355328 then (
        let v12 : Int := IntKind.i64.wrap (x7 + 1)
        law22_VerifyAhead_l9 n k ((x1, x2, x3, x4, x5, x6, (), v12, ()), ((x8, (), (), x9, (), (), (), ()), l10, l11 ++ [(1, (Int.tmod x7 3, (0, (0, (0, 0)))))], ()))) else none
    else
      some (.inl ((x1, x2, x3, x4, x5, x6, (), ()), ((x8, (), (), x9, (), (), (), ()), l10, l11, ())))
abbrev law22_VerifyAhead_c16_h : Sh := ⟨[(.one (.val (.int .i64))), (.one (.val (.int .i64))), (.one (.val (.int .i64))), (.one (.val .bool)), (.one (.val .bool)), (.one (.val .bool)), (.one (.ptr 0 0)), (.one (.ptr 1 0))], [(.obj 33 [(.val .str), (.emp true), (.emp true), (.val (.int .i64)), (.emp true), (.arr 2), (.arr 3)]), (.obj 35 [(.val (.int .i64)), (.val (.int .i64)), (.val (.int .i64)), (.val (.int .i64)), (.val (.int .i64)), (.val (.int .i64))]), (.arr 29 ty2), (.arr 35 ty6)]⟩
abbrev law22_VerifyAhead_c16_o : List Out := [⟨.normal, [0, 1, 2, 4, 11, 12, 14], ⟨[(.one (.val (.int .i64))), (.one (.val (.int .i64))), (.one (.val (.int .i64))), (.one (.val .bool)), (.one (.val .bool)), (.one (.ptr 0 0)), (.one (.ptr 1 0))], [(.obj 33 [(.val .str), (.emp true), (.emp true), (.val (.int .i64)), (.emp true), (.arr 2), (.arr 3)]), (.obj 35 [(.val (.int .i64)), (.val (.int .i64)), (.val (.int .i64)), (.val (.int .i64)), (.val (.int .i64)), (.val (.int .i64))]), (.arr 29 ty2), (.arr 35 ty6)]⟩⟩]
def law22_VerifyAhead_c16 (n : Nat) : law22_VerifyAhead_c16_h.T → Option (OutT law22_VerifyAhead_c16_o)
  | ((x1, x2, x3, x4, x5, x6, _, _, _), ((x7, _, _, x8, _, _, _, _), (x9, x10, x11, x12, x13, x14, _), l15, l16, _)) =>
    if x4 then
      some (.inl ((x1, x2, x3, x5, x6, (), (), ()), ((x7, (), (), x8, (), (), (), ()), (8, x10, x11, x12, x13, x14, ()), l15, l16, ())))
    else
      some (.inl ((x1, x2, x3, x5, x6, (), (), ()), ((x7, (), (), x8, (), (), (), ()), (x9, x10, x11, x12, x13, x14, ()), l15, l16, ())))
def law22_VerifyAhead : Nat → law22_VerifyAhead_ins.T → Option (OutsT law22_VerifyAhead_outs)
  | 0, _ => none
  | n + 1, ((x1, x2, x3, x4, x5, _), _) =>
    match law22_first n ((), ()) with
    | some ((x6, _), _) => (
      if !x6 then
        some ((false, ()), ())
      else
        match world_Number n ((x1, 20, ()), ()) with
        | some ((x7, _), _) => (
          let v8 : Int := IntKind.i64.wrap (x7 + 2)
          let v9 : Int := IntKind.i64.wrap (v8 - 1)
          match world_Number n ((x2, v9, ()), ()) with
          | some ((x10, _), _) => (
            let v11 : Int := IntKind.i64.wrap (v8 + 3)
            match world_Number n ((x3, v11, ()), ()) with
            | some ((x12, _), _) => (
              let v13 : Int := IntKind.i64.wrap (x12 - 1)
              match law22_VerifyAhead_l9 n n ((v8, x10, v13, x4, x5, x6, (), 0, ()), (((⟨#[102]⟩ : ByteArray), (), (), 3, (), (), (), ()), [((⟨#[105]⟩ : ByteArray), (⟨#[103]⟩ : ByteArray))], [], ())) with
              | some (.inl ((x14, x15, x16, x17, x18, x19, _, _), ((x20, _, _, x21, _, _, _, _), l22, l23, _))) => (
                let v24 : Int := IntKind.i64.wrap (x14 - 1)
                match law22_end n ((), ()) with
                | some (((x25, x26, x27, x28, x29, x30, _), _), _) => (
                  if 0 ≤ v24 ∧ v24 < (l23.length : Int) then (
                    match law22_VerifyAhead_c16 n ((x14, x15, x16, x17, x18, x19, (), (), ()), ((x20, (), (), x21, (), (), (), ()), (9, 0, 0, 0, 0, x16, ()), l22, List.set l23 (v24 : Int).toNat (x25, (x26, (x27, (x28, (x29, x30))))), ())) with
                    | some (.inl ((x31, x32, x33, x34, x35, _, _, _), ((x36, _, _, x37, _, _, _, _), (x38, x39, x40, x41, x42, x43, _), l44, l45, _))) => (
                      if 0 ≤ x32 ∧ x32 < (l45.length : Int) then (
                        match verify_Object_2 n (((x36, [], [], x37, [], (), (), ()), [((⟨#[103]⟩ : ByteArray), ([], []))], ()), (l44, List.set l45 (x32 : Int).toNat (x38, (x39, (x40, (x41, (x42, x43))))), ())) with
                        | some ((x46, _), (l47, l48, _)) => (
                          if decide (x33 ≤ x32) then
                            if x35 then
                              match ref_Placed n ((104, x32, ()), ()) with
                              | some (((x49, x50, x51, x52, x53, _), _), _) => (
                                match pendulumsee_Same n ((x46, (x49, x50, x51, x52, x53, ()), ()), ()) with
                                | some ((x54, _), _) => (
                                  some ((x54, ()), ()))
                                | none => none)
                              | none => none
                            else
                              some ((false, ()), ())
                          else
                            if decide (x33 ≥ x31) then
                              if x35 then
                                match ref_Placed n ((104, x32, ()), ()) with
                                | some (((x55, x56, x57, x58, x59, _), _), _) => (
                                  match pendulumsee_Same n ((x46, (x55, x56, x57, x58, x59, ()), ()), ()) with
                                  | some ((x60, _), _) => (
                                    some ((x60, ()), ()))
                                  | none => none)
                                | none => none
                              else
                                some ((false, ()), ())
                            else
                              if !(errNil x46) then
                                some ((false, ()), ())
                              else
                                if !x34 then
                                  some ((x35, ()), ())
                                else
                                  if decide (x32 < 1) then
                                    some ((x35, ()), ())
                                  else
                                    let v61 : Int := IntKind.i64.wrap (x32 - 1)
                                    if 0 ≤ v61 ∧ v61 < (l48.length : Int) then (
                                      match verify_Object_2 n (((x36, [], [], x37, [], (), (), ()), [((⟨#[103]⟩ : ByteArray), ([], []))], ()), (l47, List.set l48 (v61 : Int).toNat (11, (0, (0, (0, (0, 0))))), ())) with
                                      | some ((x62, _), (l63, l64, _)) => (
                                        if !(errNil x62) then
                                          some ((false, ()), ())
                                        else
                                          if 0 ≤ x32 ∧ x32 < (l64.length : Int) then (
                                            if x35 then
                                              match verify_Object_2 n (((x36, [], [], x37, [], (), (), ()), [((⟨#[103]⟩ : ByteArray), ([], []))], ()), (l63, List.set l64 (x32 : Int).toNat (11, (0, (0, (0, (0, 0))))), ())) with
                                              | some ((x65, _), (l66, l67, _)) => (
                                                match ref_Placed n ((103, x32, ()), ()) with
                                                | some (((x68, x69, x70, x71, x72, _), _), _) => (
                                                  match pendulumsee_Same n ((x65, (x68, x69, x70, x71, x72, ()), ()), ()) with
                                                  | some ((x73, _), _) => (
                                                    some ((x73, ()), ()))
                                                  | none => none)
                                                | none => none)
                                              | none => none
                                            else
                                              some ((false, ()), ())) else none)
                                      | none => none) else none)
                        | none => none) else none)
                    | some (.inr (_)) => none
                    | none => none) else none)
                | none => none)
              | some (.inr (_)) => none
              | none => none)
            | none => none)
          | none => none)
        | none => none)
    | none => none
def law22_VerifyAhead_H (n : Nat) : Hints := ⟨[], fun _ => [], fun k => match k with | 9 => some ⟨[0, 1, 2, 3, 4, 11, 12, 13], law22_VerifyAhead_l9_h, law22_VerifyAhead_l9_o, law22_VerifyAhead_l9 n⟩ | _ => none, fun k => match k with | 16 => some ⟨[0, 1, 2, 3, 4, 11, 12, 14], law22_VerifyAhead_c16_h, law22_VerifyAhead_c16_o, fun n => law22_VerifyAhead_c16 n⟩ | _ => none⟩
def law22_VerifyAhead_O (n : Nat) : FuncId → List FSpec := asc [(8, ⟨law22_first_ins, law22_first_outs, law22_first n⟩), (9, ⟨world_Number_ins, world_Number_outs, world_Number n⟩), (11, ⟨law22_end_ins, law22_end_outs, law22_end n⟩), (12, ⟨verify_Object_2_ins, verify_Object_2_outs, verify_Object_2 n⟩), (13, ⟨pendulumsee_Same_ins, pendulumsee_Same_outs, pendulumsee_Same n⟩), (14, ⟨ref_Placed_ins, ref_Placed_outs, ref_Placed n⟩)]
def b4 : Code := bodyOf Tryd.f4
theorem law22_VerifyAhead_l9_k0 (n : Nat) : LoopOk P CC (law22_VerifyAhead_O n) n 0 118 (law22_VerifyAhead_H n) ⟨[0, 1, 2, 3, 4, 11, 12, 13], law22_VerifyAhead_l9_h, law22_VerifyAhead_l9_o, law22_VerifyAhead_l9 n⟩ ((loopsOf b4).getD 0 .skip) := by
  refine ⟨fun _ => by kernel_rfl, ?_⟩
  rintro k ⟨⟨x1, x2, x3, x4, x5, x6, ⟨⟩, x7, ⟨⟩⟩, ⟨⟨x8, ⟨⟩, ⟨⟩, x9, ⟨⟩, ⟨⟩, ⟨⟩, ⟨⟩⟩, x10, x11, ⟨⟩⟩⟩
  kernel_rfl
theorem law22_VerifyAhead_c16_k16 (n : Nat) : CutOk P CC (law22_VerifyAhead_O n) n 0 118 (law22_VerifyAhead_H n) ⟨[0, 1, 2, 3, 4, 11, 12, 14], law22_VerifyAhead_c16_h, law22_VerifyAhead_c16_o, fun n => law22_VerifyAhead_c16 n⟩ ((cutsOf b4).getD 16 (0, .skip)).2 := by
  rintro ⟨⟨x1, x2, x3, x4, x5, x6, ⟨⟩, ⟨⟩, ⟨⟩⟩, ⟨⟨x7, ⟨⟩, ⟨⟩, x8, ⟨⟩, ⟨⟩, ⟨⟩, ⟨⟩⟩, ⟨x9, x10, x11, x12, x13, x14, ⟨⟩⟩, x15, x16, ⟨⟩⟩⟩
  kernel_rfl
theorem law22_VerifyAhead_ok {S : Nat → Addr} (ok : CfgOk P CC S) : ∀ n, SpecOk P CC S 4 ⟨law22_VerifyAhead_ins, law22_VerifyAhead_outs, law22_VerifyAhead n⟩ :=
  fn_all ok (O := law22_VerifyAhead_O) (H := law22_VerifyAhead_H) (fn := Tryd.f4) (body := b4) (by kernel_rfl) (by kernel_rfl) (by kernel_rfl) (by decide) (by kernel_rfl)
    (fun x => by kernel_rfl) (fun n => by
      rintro ⟨⟨x1, x2, x3, x4, x5, ⟨⟩⟩, ⟨⟩⟩
      kernel_rfl)
    (fun n => obl_of (by kernel_rfl) (by kernel_rfl) (ls (lz) (by kernel_rfl) (law22_VerifyAhead_l9_k0 n)) (cn (cn (cn (cn (cn (cn (cn (cn (cn (cn (cn (cn (cn (cn (cn (cn (cn (cn (cn (cs (cn (cn (cn (cn (cn (cn (cn (cn (cn (cn (cn (cn (cn (cn (cn (cn (cz) (by kernel_rfl)) (by kernel_rfl)) (by kernel_rfl)) (by kernel_rfl)) (by kernel_rfl)) (by kernel_rfl)) (by kernel_rfl)) (by kernel_rfl)) (by kernel_rfl)) (by kernel_rfl)) (by kernel_rfl)) (by kernel_rfl)) (by kernel_rfl)) (by kernel_rfl)) (by kernel_rfl)) (by kernel_rfl)) (by kernel_rfl) (law22_VerifyAhead_c16_k16 n)) (by kernel_rfl)) (by kernel_rfl)) (by kernel_rfl)) (by kernel_rfl)) (by kernel_rfl)) (by kernel_rfl)) (by kernel_rfl)) (by kernel_rfl)) (by kernel_rfl)) (by kernel_rfl)) (by kernel_rfl)) (by kernel_rfl)) (by kernel_rfl)) (by kernel_rfl)) (by kernel_rfl)) (by kernel_rfl)) (by kernel_rfl)) (by kernel_rfl)) (by kernel_rfl)))
    (fun n ih => asc_cons (law22_first_ok ok n) <| asc_cons (world_Number_ok ok n) <| asc_cons (law22_end_ok ok n) <| asc_cons (verify_Object_2_ok ok n) <| asc_cons (pendulumsee_Same_ok ok n) <| asc_cons (ref_Placed_ok ok n) <| asc_nil)
end
end Go.Proofs.YtnfhfbdnpfgimaaDoor.Cm
